/- Parts of the proofs of the statement, joined and made short: WC G1 RgMath G2 G3 G4 G5 G6 G7 G8 EY G9 G10 G11 G12 G13 G14 RgSw G15 G16 G17 G18 G19 G20 G21 G22 G23 G24 G25 G26 G27 G28 RgMo. -/
import Derived.Test.YtgaeajfoiigbkaaGreatDoorP10
import Derived.Test.YtgaeajfoiigbkaaGreatDoorP11
import Derived.Test.YtgaeajfoiigbkaaGreatDoorP12
import Derived.Test.YtgaeajfoiigbkaaGreatDoorP13
import Derived.Test.YtgaeajfoiigbkaaGreatDoorP8
set_option linter.unusedVariables false
set_option linter.unusedSimpArgs false
set_option linter.unusedSectionVars false
set_option maxRecDepth 10000
set_option maxHeartbeats 2000000
namespace Go.Am.E
open Go.Proofs Go.Rc
theorem run77 (e : Evt) : K 77 [.dat e.dat] [] = some (.dat (.bool (vld e)),[]):=by
 obtain ⟨ag,idx,kind,obj,mux,ent,ord,rd,wr⟩:=e
 by_cases h : 1 ≤ kind ∧ kind ≤ 17
 ·have : kind = 1 ∨ kind = 2 ∨ kind = 3 ∨ kind = 4 ∨ kind = 5 ∨ kind = 6 ∨ kind = 7 ∨ kind = 8 ∨ kind = 9 ∨ kind = 10 ∨ kind = 11 ∨ kind = 12 ∨ kind = 13 ∨ kind = 14 ∨ kind = 15 ∨ kind = 16 ∨ kind = 17:=by omega
  rcases this with rfl | rfl | rfl | rfl | rfl | rfl | rfl | rfl | rfl | rfl | rfl | rfl | rfl | rfl | rfl | rfl | rfl
  ·exact v77_1 ..
  ·exact v77_2 ..
  ·exact v77_3 ..
  ·exact v77_4 ..
  ·exact v77_5 ..
  ·exact v77_6 ..
  ·exact v77_7 ..
  ·exact v77_8 ..
  ·exact v77_9 ..
  ·exact v77_10 ..
  ·exact v77_11 ..
  ·exact v77_12 ..
  ·exact v77_13 ..
  ·exact v77_14 ..
  ·exact v77_15 ..
  ·exact v77_16 ..
  ·exact v77_17 ..
 ·rw [vf (by unfold VP; simp only; omega)]
  refine zha7 (fn:=fn77) rfl rfl ?_
  by_cases h1 : kind < 1
  ·simp [zja7,Evt.cells,h1]
  ·have h2 : 17 < kind:=by omega
   simp [zja7,Evt.cells,h1,h2]
end Go.Am.E

set_option maxRecDepth 10000
set_option maxHeartbeats 4000000
namespace Go.Am.E
open Go.Proofs Go.Rc
attribute [local simp] Evt.cells
def rdE (e : Evt) : Bool:=decide (e.kind = 1) || decide (e.kind = 8) || decide (e.kind = 5) || decide (e.kind = 6)
def wrE (e : Evt) : Bool:=decide (e.kind = 2) || decide (e.kind = 5)
def wr3 (e : Evt) : Bool:=decide (e.kind = 2) || decide (e.kind = 3) || decide (e.kind = 5)
def acE (e : Evt) : Bool:=(decide (e.kind = 1) || decide (e.kind = 2) || decide (e.kind = 3) || decide (e.kind = 5) || decide (e.kind = 6) || decide (e.kind = 8)) && decide (0 ≤ e.ag)
def muE (e : Evt) : Int:=if e.kind = 9 ∨ e.kind = 10 ∨ e.kind = 11 then e.obj else if e.kind = 12 then e.mux else -1
def muR (e : Evt) : Int:=if e.kind = 9 ∨ e.kind = 10 ∨ e.kind = 11 then e.obj else e.mux
def cdE (e : Evt) : Int:=if e.kind = 12 ∨ e.kind = 13 ∨ e.kind = 14 ∨ e.kind = 15 then e.obj else -1
theorem run111 (e : Evt) : K 111 [.dat e.dat] [] = some (.dat (.bool (rdE e)),[]):=ce rfl (by
 obtain ⟨ag,idx,kind,obj,mux,ent,ord,rd,wr⟩:=e
 by_cases h1 : kind = 1
 ·simp [h1,rdE]
 by_cases h2 : kind = 8
 ·simp [h2,rdE]
 by_cases h3 : kind = 5
 ·simp [h3,rdE]
 simp [h1,h2,h3,rdE])
theorem run181 (e : Evt) : K 181 [.dat e.dat] [] = some (.dat (.bool (rdE e)),[]):=ce rfl (by
 obtain ⟨ag,idx,kind,obj,mux,ent,ord,rd,wr⟩:=e
 by_cases h1 : kind = 1
 ·simp [h1,rdE]
 by_cases h2 : kind = 8
 ·simp [h2,rdE]
 by_cases h3 : kind = 5
 ·simp [h3,rdE]
 simp [h1,h2,h3,rdE])
theorem readsK_rd (e : Evt) : zif7 e.kind = rdE e:=by
 unfold zif7 rdE
 by_cases h1 : e.kind = 1 <;> by_cases h2 : e.kind = 8 <;> by_cases h3 : e.kind = 5 <;> by_cases h4 : e.kind = 6 <;> simp [h1,h2,h3,h4]
theorem run78 (e : Evt) : K 78 [.dat e.dat] [] = some (.dat (.bool (vld e && rdE e)),[]):=ce rfl (by
 have h1:=run77 e
 have h2:=run128 e.kind
 rw [readsK_rd] at h2
 generalize vld e = v at *
 generalize rdE e = r at *
 obtain ⟨ag,idx,kind,obj,mux,ent,ord,rd,wr⟩:=e
 simp only [Evt.dat,Evt.cells] at h1 h2
 cases v <;> simp [h1,h2])
theorem run148 (e : Evt) : K 148 [.dat e.dat] [] = some (.dat (.bool (wrE e)),[]):=ce rfl (by
 obtain ⟨ag,idx,kind,obj,mux,ent,ord,rd,wr⟩:=e
 by_cases h1 : kind = 2 <;> simp [h1,wrE])
theorem run156 (e : Evt) : K 156 [.dat e.dat] [] = some (.dat (.bool (wrE e)),[]):=ce rfl (by
 obtain ⟨ag,idx,kind,obj,mux,ent,ord,rd,wr⟩:=e
 by_cases h1 : kind = 2 <;> simp [h1,wrE])
theorem run62 (e : Evt) : K 62 [.dat e.dat] [] = some (.dat (.bool (wr3 e)),[]):=ce rfl (by
 obtain ⟨ag,idx,kind,obj,mux,ent,ord,rd,wr⟩:=e
 by_cases h1 : kind = 2
 ·simp [h1,wr3]
 by_cases h2 : kind = 3
 ·simp [h2,wr3]
 simp [h1,h2,wr3])
theorem run68 (e : Evt) : K 68 [.dat e.dat] [] = some (.dat (.bool (wr3 e)),[]):=ce rfl (by
 obtain ⟨ag,idx,kind,obj,mux,ent,ord,rd,wr⟩:=e
 by_cases h1 : kind = 2
 ·simp [h1,wr3]
 by_cases h2 : kind = 3
 ·simp [h2,wr3]
 simp [h1,h2,wr3])
theorem run61 (e : Evt) : K 61 [.dat e.dat] [] = some (.dat (.bool (acE e)),[]):=ce rfl (by
 obtain ⟨ag,idx,kind,obj,mux,ent,ord,rd,wr⟩:=e
 by_cases h1 : kind = 1
 ·simp [h1,acE]
 by_cases h2 : kind = 2
 ·simp [h2,acE]
 by_cases h3 : kind = 3
 ·simp [h3,acE]
 by_cases h4 : kind = 5
 ·simp [h4,acE]
 by_cases h5 : kind = 6
 ·simp [h5,acE]
 by_cases h6 : kind = 8
 ·simp [h6,acE]
 simp [h1,h2,h3,h4,h5,h6,acE])
theorem run67 (e : Evt) : K 67 [.dat e.dat] [] = some (.dat (.bool ((vld e && rdE e) || wr3 e)),[]):=ce rfl (by
 have h1:=run78 e
 have h2:=run68 e
 obtain ⟨ag,idx,kind,obj,mux,ent,ord,rd,wr⟩:=e
 simp only [Evt.dat,Evt.cells] at h1 h2
 cases h : (vld ⟨ag,idx,kind,obj,mux,ent,ord,rd,wr⟩ && rdE ⟨ag,idx,kind,obj,mux,ent,ord,rd,wr⟩) <;> simp [h] at h1 <;> simp [h1,h2,h])
theorem run109 (e : Evt) : K 109 [.dat e.dat] [] = some (.dat (Nn (muE e)),[]):=ce rfl (by
 obtain ⟨ag,idx,kind,obj,mux,ent,ord,rd,wr⟩:=e
 by_cases h1 : kind = 9
 ·simp [h1,muE]
 by_cases h2 : kind = 10
 ·simp [h2,muE]
 by_cases h3 : kind = 11
 ·simp [h3,muE]
 by_cases h4 : kind = 12
 ·simp [h4,muE]
 simp [h1,h2,h3,h4,muE])
theorem run235 (e : Evt) : K 235 [.dat e.dat] [] = some (.dat (Nn (muR e)),[]):=ce rfl (by
 obtain ⟨ag,idx,kind,obj,mux,ent,ord,rd,wr⟩:=e
 by_cases h1 : kind = 9
 ·simp [h1,muR]
 by_cases h2 : kind = 10
 ·simp [h2,muR]
 by_cases h3 : kind = 11
 ·simp [h3,muR]
 simp [h1,h2,h3,muR])
theorem run110 (e : Evt) : K 110 [.dat e.dat] [] = some (.dat (Nn (cdE e)),[]):=ce rfl (by
 obtain ⟨ag,idx,kind,obj,mux,ent,ord,rd,wr⟩:=e
 by_cases h1 : kind = 12
 ·simp [h1,cdE]
 by_cases h2 : kind = 13
 ·simp [h2,cdE]
 by_cases h3 : kind = 14
 ·simp [h3,cdE]
 by_cases h4 : kind = 15
 ·simp [h4,cdE]
 simp [h1,h2,h3,h4,cdE])
theorem run236 (e : Evt) : K 236 [.dat e.dat] [] = some (.dat (Nn (cdE e)),[]):=ce rfl (by
 obtain ⟨ag,idx,kind,obj,mux,ent,ord,rd,wr⟩:=e
 by_cases h1 : kind = 12
 ·simp [h1,cdE]
 by_cases h2 : kind = 13
 ·simp [h2,cdE]
 by_cases h3 : kind = 14
 ·simp [h3,cdE]
 by_cases h4 : kind = 15
 ·simp [h4,cdE]
 simp [h1,h2,h3,h4,cdE])
def sameE' (a b : Evt) : Bool:=(decide (0 ≤ muE a) && decide (muE a = muE b)) || (decide (0 ≤ cdE a) && decide (cdE a = cdE b))
theorem run59 (a b : Evt) : K 59 [.dat a.dat,.dat b.dat] [] = some (.dat (.bool (sameE' a b)),[]):=ce rfl (by
 have h1:=run109 a
 have h2:=run109 b
 have h3:=run110 a
 have h4:=run110 b
 unfold sameE'
 generalize muE a = ma at *
 generalize muE b = mb at *
 generalize cdE a = ca at *
 generalize cdE b = cb at *
 obtain ⟨ag,idx,kind,obj,mux,ent,ord,rd,wr⟩:=a
 obtain ⟨ag',idx',kind',obj',mux',ent',ord',rd',wr'⟩:=b
 simp only [Evt.dat,Evt.cells] at h1 h2 h3 h4
 by_cases c2 : ma = mb
 ·subst c2
  by_cases c1 : 0 ≤ ma
  ·simp [h1,h2,c1]
  ·by_cases c3 : 0 ≤ ca <;> simp [h1,h2,h3,h4,c1,c3]
 ·by_cases c1 : 0 ≤ ma <;> by_cases c3 : 0 ≤ ca <;> simp [h1,h2,h3,h4,c1,c2,c3])
def syncR (i k : Nat) (a b : Evt) : Bool:=decide (i < k) && ((decide (0 ≤ muR a) && decide (muR a = muR b)) || (decide (0 ≤ cdE a) && decide (cdE a = cdE b)))
def cfP (a b : Evt) : Bool:=!decide (a.ag = b.ag) && (acE a && (acE b && (decide (a.obj = b.obj) && ((wr3 a || wr3 b) && (decide (a.ord = 0) || decide (b.ord = 0))))))
def cfR (a b : Evt) : Bool:=((vld a && rdE a) || wr3 a) && (((vld b && rdE b) || wr3 b) && (!decide (a.ag = b.ag) && (decide (a.obj = b.obj) && ((wr3 a || wr3 b) && (decide (a.ord = 0) || decide (b.ord = 0))))))
theorem run35 (a b : Evt) : K 35 [.dat a.dat,.dat b.dat] [] = some (.dat (.bool (cfP a b)),[]):=ce rfl (by
 have h1:=run61 a
 have h2:=run61 b
 have h3:=run62 a
 have h4:=run62 b
 unfold cfP
 generalize acE a = ma at *
 generalize acE b = mb at *
 generalize wr3 a = ca at *
 generalize wr3 b = cb at *
 obtain ⟨ag,idx,kind,obj,mux,ent,ord,rd,wr⟩:=a
 obtain ⟨ag',idx',kind',obj',mux',ent',ord',rd',wr'⟩:=b
 simp only [Evt.dat,Evt.cells] at h1 h2 h3 h4
 by_cases c1 : ag = ag'
 ·subst c1; simp
 cases ma
 ·simp [h1,c1]
 cases mb
 ·simp [h1,h2,c1]
 by_cases c2 : obj = obj'
 ·subst c2
  by_cases c3 : ord = 0
  ·subst c3
   cases ca <;> cases cb <;> simp [h1,h2,h3,h4,c1]
  ·cases ca <;> cases cb <;> simp [h1,h2,h3,h4,c1,c3]
 ·simp [h1,h2,c1,c2])
theorem run38 (a b : Evt) : K 38 [.dat a.dat,.dat b.dat] [] = some (.dat (.bool (cfR a b)),[]):=ce rfl (by
 have h1:=run67 a
 have h2:=run67 b
 have h3:=run68 a
 have h4:=run68 b
 unfold cfR
 generalize ((vld a && rdE a) || wr3 a) = ma at *
 generalize ((vld b && rdE b) || wr3 b) = mb at *
 generalize wr3 a = ca at *
 generalize wr3 b = cb at *
 obtain ⟨ag,idx,kind,obj,mux,ent,ord,rd,wr⟩:=a
 obtain ⟨ag',idx',kind',obj',mux',ent',ord',rd',wr'⟩:=b
 simp only [Evt.dat,Evt.cells] at h1 h2 h3 h4
 cases ma
 ·simp [h1]
 cases mb
 ·simp [h1,h2]
 by_cases c1 : ag = ag'
 ·subst c1; simp [h1,h2]
 by_cases c2 : obj = obj'
 ·subst c2
  by_cases c3 : ord = 0
  ·subst c3
   cases ca <;> cases cb <;> simp [h1,h2,h3,h4,c1]
  ·cases ca <;> cases cb <;> simp [h1,h2,h3,h4,c1,c3]
 ·simp [h1,h2,c1,c2])
end Go.Am.E

namespace Go.Rg
inductive Pth (R : Nat → Nat → Bool) : Nat → Nat → Prop
 | one {a b : Nat} : R a b = true → Pth R a b
 | cons {a b c : Nat} : R a b = true → Pth R b c → Pth R a c
inductive PB (R : Nat → Nat → Bool) (m : Nat) : Nat → Nat → Prop
 | one {a b : Nat} : R a b = true → PB R m a b
 | cons {a b c : Nat} : R a b = true → b < m → PB R m b c → PB R m a c
theorem PB.mono {R : Nat → Nat → Bool} {m k a b : Nat} (h : PB R m a b) (hk : m ≤ k) : PB R k a b:=by
 induction h with
 | one h => exact .one h
 | cons h hb _ ih => exact .cons h (by omega) ih
theorem PB.trans {R : Nat → Nat → Bool} {m k a b : Nat} (h : PB R k a m) (hm : m < k) (h2 : PB R k m b) : PB R k a b:=by
 induction h with
 | one h => exact .cons h hm h2
 | cons h hb _ ih => exact .cons h hb (ih hm h2)
theorem PB_succ {R : Nat → Nat → Bool} {m a b : Nat} : PB R (m + 1) a b ↔ PB R m a b ∨ (PB R m a m ∧ PB R m m b):=by
 constructor
 ·intro h
  induction h with
  | one h => exact .inl (.one h)
  | @cons a c b h hb _ ih =>
   by_cases hc : c < m
   ·rcases ih with ih | ⟨h1,h2⟩
    ·exact .inl (.cons h hc ih)
    ·exact .inr ⟨.cons h hc h1,h2⟩
   ·have : c = m:=by omega
    subst this
    rcases ih with ih | ⟨h1,h2⟩
    ·exact .inr ⟨.one h,ih⟩
    ·exact .inr ⟨.one h,h2⟩
 ·rintro (h | ⟨h1,h2⟩)
  ·exact h.mono (by omega)
  ·exact PB.trans (h1.mono (by omega)) (by omega) (h2.mono (by omega))
theorem PB_zero {R : Nat → Nat → Bool} {a b : Nat} : PB R 0 a b ↔ R a b = true:=by
 constructor
 ·intro h
  cases h with
  | one h => exact h
  | cons _ h _ => omega
 ·exact .one
theorem PB_all {R : Nat → Nat → Bool} {n : Nat} (hR : ∀ a b,R a b = true → b < n) {a b : Nat} : PB R n a b ↔ Pth R a b:=by
 constructor
 ·intro h
  induction h with
  | one h => exact .one h
  | cons h _ _ ih => exact .cons h ih
 ·intro h
  induction h with
  | one h => exact .one h
  | cons h _ ih => exact .cons h (hR _ _ h) ih
def war (R : Nat → Nat → Bool) : Nat → Nat → Nat → Bool
 | 0,a,b => R a b
 | m + 1,a,b => war R m a b || (war R m a m && war R m m b)
theorem war_iff {R : Nat → Nat → Bool} : ∀ (m a b : Nat),war R m a b = true ↔ PB R m a b
 | 0,a,b => by rw [war,PB_zero]
 | m + 1,a,b => by
  rw [war,PB_succ,Bool.or_eq_true,Bool.and_eq_true,war_iff m,war_iff m,war_iff m]
def dfs (nxt : Nat → List Nat) (a : Nat) : Nat → Nat → List (Nat × Nat) → List (Nat × Nat)
 | 0,_,s => s
 | f + 1,b,s => (nxt b).foldl (fun s c => if (a,c) ∈ s then s else dfs nxt a f c (s ++ [(a,c)])) s
def unv (n a : Nat) (s : List (Nat × Nat)) : Nat:=((List.range n).filter fun c => decide ((a,c) ∉ s)).length
theorem filter_lt {α : Type} {p q : α → Bool} : ∀ {l : List α},(∀ x ∈ l,q x = true → p x = true) → ∀ {x : α},x ∈ l → p x = true → q x = false → (l.filter q).length < (l.filter p).length
 | [],_,x,hx,_,_ => by simp at hx
 | y :: l,h,x,hx,hp,hq => by
  have hle : ∀ {l : List α},(∀ x ∈ l,q x = true → p x = true) → (l.filter q).length ≤ (l.filter p).length:=by
   intro l
   induction l with
   | nil => intro _; simp
   | cons z l ih =>
    intro h
    have ih:=ih fun x hx => h x (by simp [hx])
    by_cases hz : q z = true
    ·have:=h z (by simp) hz
     simp [hz,this,ih]
    ·by_cases hz2 : p z = true
     ·simp [hz,hz2]; omega
     ·simp [hz,hz2,ih]
  have hl:=hle (l:=l) fun x hx => h x (by simp [hx])
  rcases List.mem_cons.1 hx with rfl | hx
  ·simp [hp,hq]; omega
  ·have ih:=filter_lt (l:=l) (fun x hx => h x (by simp [hx])) hx hp hq
   by_cases hz : q y = true
   ·have:=h y (by simp) hz
    simp [hz,this]; exact ih
   ·by_cases hz2 : p y = true
    ·simp [hz,hz2]; omega
    ·simp [hz,hz2]; exact ih
theorem unv_lt {n a c : Nat} {s : List (Nat × Nat)} (hc : c < n) (h : (a,c) ∉ s) : unv n a (s ++ [(a,c)]) < unv n a s:=by
 refine filter_lt (fun x _ hx => ?_) (List.mem_range.2 hc) ?_ ?_
 ·simp at hx ⊢; exact hx.1
 ·simpa using h
 ·simp
theorem unv_le {n a : Nat} {s t : List (Nat × Nat)} (h : ∀ x ∈ s,x ∈ t) : unv n a t ≤ unv n a s:=by
 have hle : ∀ {l : List Nat} {p q : Nat → Bool},(∀ x ∈ l,q x = true → p x = true) → (l.filter q).length ≤ (l.filter p).length:=by
  intro l p q
  induction l with
  | nil => intro _; simp
  | cons z l ih =>
   intro h
   have ih:=ih fun x hx => h x (by simp [hx])
   by_cases hz : q z = true
   ·have:=h z (by simp) hz
    simp [hz,this,ih]
   ·by_cases hz2 : p z = true
    ·simp [hz,hz2]; omega
    ·simp [hz,hz2,ih]
 refine hle fun x _ hx => ?_
 simp at hx ⊢
 exact fun hs => hx (h _ hs)
theorem unv_n (n a : Nat) (s : List (Nat × Nat)) : unv n a s ≤ n:=by
 have:=List.length_filter_le (fun c => decide ((a,c) ∉ s)) (List.range n)
 simpa [unv] using this
structure Fnd (R : Nat → Nat → Bool) (nxt : Nat → List Nat) (a : Nat) (l : List Nat) (s t : List (Nat × Nat)) : Prop where
 sub : ∀ x ∈ s,x ∈ t
 snd : ∀ c,(a,c) ∈ t → (a,c) ∈ s ∨ ∃ b ∈ l,b = c ∨ Pth R b c
 hit : ∀ c ∈ l,(a,c) ∈ t
 cls : ∀ c,(a,c) ∈ t → (a,c) ∉ s → ∀ d ∈ nxt c,(a,d) ∈ t
 oth : ∀ x ∈ t,x ∈ s ∨ x.1 = a
theorem dfs_fnd {R : Nat → Nat → Bool} {nxt : Nat → List Nat} {n a : Nat} (hx : ∀ b c,c ∈ nxt b ↔ R b c = true) (hn : ∀ b,∀ c ∈ nxt b,c < n) :
  ∀ (f b : Nat) (s : List (Nat × Nat)),unv n a s < f → Fnd R nxt a (nxt b) s (dfs nxt a f b s):=by
 intro f
 induction f with
 | zero => intro b s h; omega
 | succ f ih =>
  intro b s hf
  have key : ∀ (l : List Nat) (s : List (Nat × Nat)),(∀ c ∈ l,c < n) → unv n a s < f + 1 → Fnd R nxt a l s (l.foldl (fun s c => if (a,c) ∈ s then s else dfs nxt a f c (s ++ [(a,c)])) s):=by
   intro l
   induction l with
   | nil => intro s _ _; exact ⟨fun x h => h,fun c h => .inl h,by simp,fun c h1 h2 => absurd h1 h2,fun x h => .inl h⟩
   | cons c l ihl =>
    intro s hl hs
    simp only [List.foldl_cons]
    by_cases hc : (a,c) ∈ s
    ·rw [if_pos hc]
     obtain ⟨h1,h2,h3,h4,h5⟩:=ihl s (fun x h => hl x (by simp [h])) hs
     refine ⟨h1,fun d hd => ?_,fun d hd => ?_,h4,h5⟩
     ·rcases h2 d hd with h | ⟨b,hb,h⟩
      ·exact .inl h
      ·exact .inr ⟨b,by simp [hb],h⟩
     ·rcases List.mem_cons.1 hd with rfl | hd
      ·exact h1 _ hc
      ·exact h3 d hd
    ·rw [if_neg hc]
     have hu:=unv_lt (hl c (by simp)) hc
     obtain ⟨g1,g2,g3,g4,g5⟩:=ih c (s ++ [(a,c)]) (by omega)
     generalize dfs nxt a f c (s ++ [(a,c)]) = t at *
     have hst : ∀ x ∈ s,x ∈ t:=fun x h => g1 x (by simp [h])
     obtain ⟨h1,h2,h3,h4,h5⟩:=ihl t (fun x h => hl x (by simp [h])) (by have:=unv_le (n:=n) (a:=a) hst; omega)
     generalize l.foldl (fun s c => if (a,c) ∈ s then s else dfs nxt a f c (s ++ [(a,c)])) t = w at *
     refine ⟨fun x h => h1 x (hst x h),fun d hd => ?_,fun d hd => ?_,fun d hd hns e he => ?_,fun x hx => ?_⟩
     ·rcases h2 d hd with h | ⟨b,hb,h⟩
      ·rcases g2 d h with h | ⟨b,hb,h⟩
       ·rcases List.mem_append.1 h with h | h
        ·exact .inl h
        ·simp at h; exact .inr ⟨c,by simp,.inl h.symm⟩
       ·refine .inr ⟨c,by simp,.inr ?_⟩
        rcases h with rfl | h
        ·exact .one ((hx _ _).1 hb)
        ·exact .cons ((hx _ _).1 hb) h
      ·exact .inr ⟨b,by simp [hb],h⟩
     ·rcases List.mem_cons.1 hd with rfl | hd
      ·exact h1 _ (g1 _ (by simp))
      ·exact h3 d hd
     ·by_cases hdt : (a,d) ∈ t
      ·by_cases hdc : d = c
       ·subst hdc; exact h1 _ (g3 e he)
       ·exact h1 _ (g4 d hdt (by simp [hns,hdc]) e he)
      ·exact h4 d hd hdt e he
     ·rcases h5 x hx with h | h
      ·rcases g5 x h with h | h
       ·rcases List.mem_append.1 h with h | h
        ·exact .inl h
        ·simp at h; subst h; exact .inr rfl
       ·exact .inr h
      ·exact .inr h
  rw [dfs]
  exact key (nxt b) s (hn b) hf
def zje7 (nxt : Nat → List Nat) (n : Nat) (k : Nat) : List (Nat × Nat):=(List.range k).foldl (fun s a => dfs nxt a (n + 1) a s) []
theorem dfsAll_iff {R : Nat → Nat → Bool} {nxt : Nat → List Nat} {n : Nat} (hx : ∀ b c,c ∈ nxt b ↔ R b c = true) (hn : ∀ b,∀ c ∈ nxt b,c < n) : ∀ (k a c : Nat),(a,c) ∈ zje7 nxt n k ↔ a < k ∧ Pth R a c
 | 0,a,c => by simp [zje7]
 | k + 1,a,c => by
  have ih:=dfsAll_iff hx hn k
  have e : zje7 nxt n (k + 1) = dfs nxt k (n + 1) k (zje7 nxt n k):=by simp [zje7,List.range_succ]
  obtain ⟨h1,h2,h3,h4,h5⟩:=dfs_fnd (R:=R) (a:=k) hx hn (n + 1) k (zje7 nxt n k) (by have:=unv_n n k (zje7 nxt n k); omega)
  rw [← e] at h1 h2 h3 h4 h5
  have hno : ∀ d,(k,d) ∉ zje7 nxt n k:=fun d hd => by have:=(ih k d).1 hd; omega
  have hcl : ∀ x d,Pth R x d → (k,x) ∈ zje7 nxt n (k + 1) → (k,d) ∈ zje7 nxt n (k + 1):=by
   intro x d hp
   induction hp with
   | one h => intro hm; exact h4 _ hm (hno _) _ ((hx _ _).2 h)
   | cons h _ ih => intro hm; exact ih (h4 _ hm (hno _) _ ((hx _ _).2 h))
  constructor
  ·intro h
   rcases h5 _ h with h | h
   ·have:=(ih a c).1 h; exact ⟨by omega,this.2⟩
   ·simp at h
    subst h
    refine ⟨by omega,?_⟩
    rcases h2 c h with h | ⟨b,hb,h⟩
    ·exact absurd h (hno c)
    ·rcases h with rfl | h
     ·exact .one ((hx _ _).1 hb)
     ·exact .cons ((hx _ _).1 hb) h
  ·rintro ⟨hk,hp⟩
   by_cases hak : a = k
   ·subst hak
    cases hp with
    | one h => exact h3 _ ((hx _ _).2 h)
    | cons h hp => exact hcl _ _ hp (h3 _ ((hx _ _).2 h))
   ·exact h1 _ ((ih a c).2 ⟨by omega,hp⟩)
end Go.Rg

set_option maxRecDepth 10000
set_option maxHeartbeats 4000000
namespace Go.Am.E
open Go.Proofs Go.Rc Go.Rg
abbrev PD (p : Nat × Nat) : Dat:=.agg [Nn p.1,Nn p.2]
abbrev Rel (n : Nat) (ps : List (Nat × Nat)) : Dat:=.agg [Nn n,.sl (ps.map PD)]
def inN (n : Nat) (ps : List (Nat × Nat)) : Prop:=n ≤ 64 ∧ ps.length < 1000000 ∧ ∀ p ∈ ps,p.1 < n ∧ p.2 < n
def ME (s : List (Nat × Nat)) : List (Dat × AVal):=s.map fun p => (PD p,.dat (.bool true))
def ixN (p : Nat × Nat) : List (Nat × Nat) → Option Nat
 | [] => none
 | q :: r => if q = p then some 0 else (ixN p r).map (· + 1)
theorem find_N (a b : Nat) : ∀ s : List (Nat × Nat),findE true [.int .i64,.int .i64] (.agg [.int .i64 a,.int .i64 b]) (ME s) = some (ixN (a,b) s)
 | [] => rfl
 | (c,d) :: r => by
  have ih:=find_N a b r
  simp only [ME,List.map_cons,findE,ixN] at ih ⊢
  by_cases h1 : c = a
  ·by_cases h2 : d = b
   ·subst h1 h2; simp [zea7,zxa7]
   ·have h2' : ¬ (b : Int) = d:=by omega
    have h2'' : ¬ b = d:=by omega
    simp [zea7,zxa7,h1,h2,h2',h2'']
    rw [ih]
    cases ixN (a,b) r <;> rfl
  ·have h1' : ¬ (a : Int) = c:=by omega
   have h1'' : ¬ a = c:=by omega
   simp [zea7,zxa7,h1,h1',h1'']
   rw [ih]
   cases ixN (a,b) r <;> rfl
theorem ixN_none {p : Nat × Nat} : ∀ {s : List (Nat × Nat)},ixN p s = none ↔ p ∉ s
 | [] => by simp [ixN]
 | q :: r => by
  simp only [ixN]
  split
  ·rename_i h; subst h; simp
  ·rename_i h
   have : ¬ p = q:=fun e => h e.symm
   simp [ixN_none (p:=p) (s:=r),this]
theorem ixN_get {p : Nat × Nat} : ∀ {s : List (Nat × Nat)} {i : Nat},ixN p s = some i → s[i]? = some p
 | [],i,h => by simp [ixN] at h
 | q :: r,i,h => by
  simp only [ixN] at h
  split at h
  ·rename_i e; subst e; cases h; rfl
  ·obtain ⟨j,hj,rfl⟩:=Option.map_eq_some_iff.1 h
   simpa using ixN_get hj
theorem ixN_mem {p : Nat × Nat} {s : List (Nat × Nat)} {i : Nat} (h : ixN p s = some i) : p ∈ s:=List.mem_of_getElem? (ixN_get h)
theorem ME_get {p : Nat × Nat} {s : List (Nat × Nat)} {i : Nat} (h : ixN p s = some i) : (ME s)[i]? = some (PD p,.dat (.bool true)):=by
 simp [ME,ixN_get h]
theorem ME_set {p : Nat × Nat} {s : List (Nat × Nat)} {i : Nat} (h : ixN p s = some i) : (ME s).set i (PD p,.dat (.bool true)) = ME s:=by
 apply List.ext_getElem?
 intro j
 by_cases e : i = j
 ·subst e
  have hl : i < (ME s).length:=by
   by_cases hl : i < (ME s).length
   ·exact hl
   ·have:=ME_get h; rw [List.getElem?_eq_none (by omega)] at this; cases this
  rw [List.getElem?_set_self hl,ME_get h]
 ·rw [List.getElem?_set_ne e]
@[simp] theorem ME_app (s : List (Nat × Nat)) (a b : Nat) : ME s ++ [(.agg [.int .i64 a,.int .i64 b],.dat (.bool true))] = ME (s ++ [(a,b)]):=by simp [ME]
@[simp] theorem ME_ids (s : List (Nat × Nat)) : AVal.idsL ((ME s).map fun x => x.2) = []:=by
 induction s with
 | nil => rfl
 | cons p r ih => simp only [ME,List.map_cons,AVal.idsL,AVal.ids] at ih ⊢; rw [ih]; rfl
@[simp] theorem ME_ren (f : Id → Id) (s : List (Nat × Nat)) : (ME s).map (fun p => (p.1,p.2.ren f)) = ME s:=by
 unfold ME; rw [List.map_map]; rfl
def vdP (n : Int) (p : Nat × Nat) : Bool:=decide ((p.1 : Int) < n) && decide ((p.2 : Int) < n)
theorem run63 {n : Nat} {ps : List (Nat × Nat)} (h : inN n ps) : K 63 [.dat (Rel n ps)] [] = some (.dat (.bool true),[]):=ce rfl (by
 obtain ⟨h1,h2,h3⟩:=h
 have e1 : ¬ (64 : Int) < n:=by omega
 simp [e1]
 simp only [zca7]
 refine (zwc7 (live:=[1,14,15,16]) (drop:=[1,14]) ps (by omega) (fun k => ⟨[(1,.ref ((2,0),0,0) 0),(14,.dat (.sl (ps.map PD))),(15,.dat (Nn ps.length)),(16,.dat (Nn k))],[((2,0),.plain (.box [.dat (Nn n),.dat (.sl (ps.map PD))]))]⟩)
  (fun _ q => q.1 = .exit 0) (fun i p s g1 g2 g3 ix hs => ?_) (fun s hs => ?_) _ (by simp)).mono ?_
 ·obtain ⟨b1,b2⟩:=h3 p (List.mem_of_getElem? g1)
  obtain ⟨a,b⟩:=p
  have c1 : ¬ (n : Int) ≤ a:=by simp at b1; omega
  have c2 : ¬ (n : Int) ≤ b:=by simp at b2; omega
  simp [hs,g1,g2,g3,ix,c1,c2,b1,b2]
 ·simp [hs]
 ·rintro ⟨_,⟨env,objs⟩⟩ rfl
  simp)
theorem run69 {n : Nat} {ps : List (Nat × Nat)} (h : inN n ps) : K 69 [.dat (Rel n ps)] [] = some (.dat (.bool true),[]):=ce rfl (by
 obtain ⟨h1,h2,h3⟩:=h
 have e1 : ¬ (64 : Int) < n:=by omega
 simp [e1]
 simp only [zca7]
 refine (zwc7 (live:=[1,3]) (drop:=[]) ps (by omega) (fun k => ⟨[(1,.ref ((2,0),0,0) 0),(3,.dat (Nn k))],[((2,0),.plain (.box [.dat (Nn n),.dat (.sl (ps.map PD))]))]⟩)
  (fun _ q => q.1 = .exit 0) (fun i p s g1 g2 g3 ix hs => ?_) (fun s hs => ?_) _ (by simp)).mono ?_
 ·obtain ⟨b1,b2⟩:=h3 p (List.mem_of_getElem? g1)
  obtain ⟨a,b⟩:=p
  have c1 : ¬ (n : Int) ≤ a:=by simp at b1; omega
  have c2 : ¬ (n : Int) ≤ b:=by simp at b2; omega
  simp [hs,g1,g2,g3,ix,c1,c2,b1,b2]
 ·simp [hs]
 ·rintro ⟨_,⟨env,objs⟩⟩ rfl
  simp)
end Go.Am.E

set_option maxRecDepth 10000
set_option maxHeartbeats 4000000
namespace Go.Am.E
open Go.Proofs Go.Rc Go.Rg
abbrev mpO (s : List (Nat × Nat)) : TObj:=.plain (.blk (.map (ME s)))
def insN (s : List (Nat × Nat)) (p : Nat × Nat) : List (Nat × Nat):=if p ∈ s then s else s ++ [p]
def setN (ps : List (Nat × Nat)) : List (Nat × Nat):=ps.foldl insN []
theorem insN_mem {s : List (Nat × Nat)} {p q : Nat × Nat} : q ∈ insN s p ↔ q ∈ s ∨ q = p:=by
 unfold insN
 split
 ·rename_i h
  constructor
  ·exact .inl
  ·rintro (h' | rfl) <;> assumption
 ·simp
theorem foldl_insN : ∀ (ps s : List (Nat × Nat)) (q : Nat × Nat),q ∈ ps.foldl insN s ↔ q ∈ s ∨ q ∈ ps
 | [],s,q => by simp
 | p :: ps,s,q => by
  rw [List.foldl_cons,foldl_insN ps,insN_mem]
  simp [or_assoc]
theorem setN_mem {ps : List (Nat × Nat)} {q : Nat × Nat} : q ∈ setN ps ↔ q ∈ ps:=by simp [setN,foldl_insN]
theorem insN_hit {s : List (Nat × Nat)} {p : Nat × Nat} {i : Nat} (h : ixN p s = some i) : insN s p = s:=by rw [insN,if_pos (ixN_mem h)]
theorem insN_new {s : List (Nat × Nat)} {p : Nat × Nat} (h : ixN p s = none) : insN s p = s ++ [p]:=by rw [insN,if_neg (ixN_none.1 h)]
theorem run152 (n : Nat) (ps : List (Nat × Nat)) (hl : ps.length < 1000000) : K 152 [.dat (Rel n ps)] [] = some (.bref false ((0,0),0,0),[mpO (setN ps)]):=ce rfl (by
 simp
 simp only [zca7]
 refine (zwc7 (live:=[3,8,9,10]) (drop:=[3,8]) ps (by omega) (fun k => ⟨[(3,.bref false ((4,0),0,0)),(8,.dat (.sl (ps.map PD))),(9,.dat (Nn ps.length)),(10,.dat (Nn k))],[((4,0),mpO ((ps.take k).foldl insN []))]⟩)
  (fun _ q => q.1 = .exit 0 ∧ hd [3] [] q.2 = some ⟨[(3,.bref false ((4,0),0,0))],[((4,0),mpO (setN ps))]⟩) (fun i p s g1 g2 g3 ix hs => ?_) (fun s hs => ?_) _ (by simp [ME])).mono ?_
 ·have ht : ps.take (i + 1) = ps.take i ++ [p]:=by rw [List.take_add_one,g1]; rfl
  obtain ⟨a,b⟩:=p
  have e1 : (ps.take (i + 1)).foldl insN [] = insN ((ps.take i).foldl insN []) (a,b):=by rw [ht,List.foldl_append,List.foldl_cons,List.foldl_nil]
  generalize (ps.take i).foldl insN [] = S at e1 hs
  cases hx : ixN (a,b) S with
  | none =>
   rw [insN_new hx] at e1
   simp [e1,hs,g1,g2,g3,ix,mupE,keyE,find_N,hx,zea7,zxa7]
  | some j =>
   rw [insN_hit hx] at e1
   have hset:=ME_set hx
   simp [e1,hs,g1,g2,g3,ix,mupE,keyE,find_N,hx,zea7,zxa7,hset]
 ·rw [List.take_length] at hs
  simp [hs,setN]
 ·rintro ⟨_,s⟩ ⟨rfl,hs⟩
  dsimp only at hs
  simp [hs])
def prs (n : Nat) (P : Nat → Nat → Bool) : List (Nat × Nat):=(List.range n).flatMap fun a => ((List.range n).filter (P a)).map fun b => (a,b)
theorem prs_mem {n : Nat} {P : Nat → Nat → Bool} {p : Nat × Nat} : p ∈ prs n P ↔ p.1 < n ∧ p.2 < n ∧ P p.1 p.2 = true:=by
 obtain ⟨a,b⟩:=p
 simp only [prs,List.mem_flatMap,List.mem_map,List.mem_filter,List.mem_range,Prod.mk.injEq]
 constructor
 ·rintro ⟨a',h1,b',⟨h2,h3⟩,rfl,rfl⟩
  exact ⟨h1,h2,h3⟩
 ·rintro ⟨h1,h2,h3⟩
  exact ⟨a,h1,b,⟨h2,h3⟩,rfl,rfl⟩
theorem prs_len (n : Nat) (P : Nat → Nat → Bool) : (prs n P).length ≤ n * n:=by
 have : ∀ k,((List.range k).flatMap fun a => ((List.range n).filter (P a)).map fun b => (a,b)).length ≤ k * n:=by
  intro k
  induction k with
  | zero => simp
  | succ k ih =>
   rw [List.range_succ,List.flatMap_append,List.length_append,Nat.add_mul,Nat.one_mul]
   have : (List.flatMap (fun a => ((List.range n).filter (P a)).map fun b => (a,b)) [k]).length ≤ n:=by
    simp only [List.flatMap_cons,List.flatMap_nil,List.append_nil,List.length_map]
    have:=List.length_filter_le (P k) (List.range n)
    simpa using this
   omega
 exact this n
def prA (n : Nat) (P : Nat → Nat → Bool) (a : Nat) : List (Nat × Nat):=(List.range a).flatMap fun a => ((List.range n).filter (P a)).map fun b => (a,b)
def prB (n : Nat) (P : Nat → Nat → Bool) (a b : Nat) : List (Nat × Nat):=prA n P a ++ ((List.range b).filter (P a)).map fun b => (a,b)
theorem prB_zero (n : Nat) (P : Nat → Nat → Bool) (a : Nat) : prB n P a 0 = prA n P a:=by simp [prB]
theorem prB_n (n : Nat) (P : Nat → Nat → Bool) (a : Nat) : prB n P a n = prA n P (a + 1):=by simp [prB,prA,List.range_succ,List.flatMap_append]
theorem zfe7 (n : Nat) (P : Nat → Nat → Bool) (a b : Nat) : prB n P a (b + 1) = if P a b = true then prB n P a b ++ [(a,b)] else prB n P a b:=by
 simp only [prB,List.range_succ,List.filter_append,List.map_append]
 split
 ·rename_i h; simp [h]
 ·rename_i h; simp [h]
theorem prA_n (n : Nat) (P : Nat → Nat → Bool) : prA n P n = prs n P:=rfl
theorem zjf7 (n : Nat) (P : Nat → Nat → Bool) : prA n P 0 = []:=rfl
theorem prA_le (n : Nat) (P : Nat → Nat → Bool) (a : Nat) : (prA n P a).length ≤ a * n:=by
 induction a with
 | zero => simp [prA]
 | succ a ih =>
  rw [← prB_n,prB,List.length_append,Nat.add_mul,Nat.one_mul,List.length_map]
  have:=List.length_filter_le (P a) (List.range n)
  simp at this
  omega
theorem prB_le (n : Nat) (P : Nat → Nat → Bool) (a b : Nat) (ha : a < n) (hb : b ≤ n) : (prB n P a b).length ≤ n * n:=by
 have h1:=prA_le n P a
 have h2:=List.length_filter_le (P a) (List.range b)
 simp at h2
 have h3 : (a + 1) * n ≤ n * n:=Nat.mul_le_mul_right n ha
 rw [Nat.add_mul,Nat.one_mul] at h3
 simp only [prB,List.length_append,List.length_map]
 omega
def gV (id : RId) (L : List (Nat × Nat)) : AVal:=if L = [] then .nils else .rsl (id,0,0) (L.length - 1) 2 0 L.length
def gS (id : RId) (L : List (Nat × Nat)) : zgb7:=if L = [] then [] else [(id,.plain (.arr 2 (L.length - 1) false (L.map PD)))]
theorem zla7 (id : RId) : gV id [] = .nils:=rfl
theorem zta7 (id : RId) : gS id [] = []:=rfl
theorem zda7 (id : RId) (p : Nat × Nat) (L : List (Nat × Nat)) : gV id (p :: L) = .rsl (id,0,0) L.length 2 0 (L.length + 1):=by simp [gV]
theorem zfa7 (id : RId) (p : Nat × Nat) (L : List (Nat × Nat)) : gS id (p :: L) = [(id,.plain (.arr 2 L.length false ((p :: L).map PD)))]:=by simp [gS]
def memP (s : List (Nat × Nat)) (a b : Nat) : Bool:=decide ((a,b) ∈ s)
theorem memP_f {s : List (Nat × Nat)} {a b : Nat} (h : ixN (a,b) s = none) : memP s a b = false:=by simpa [memP] using ixN_none.1 h
theorem memP_t {s : List (Nat × Nat)} {a b i : Nat} (h : ixN (a,b) s = some i) : memP s a b = true:=by simpa [memP] using ixN_mem h
abbrev E149 (n a : Nat) (r : Env) : Env:=(0,.dat (Nn n)) :: (1,.bref false ((0,0),0,0)) :: (4,.ref ((5,0),0,0) 0) :: (5,.ref ((6,0),0,0) 0) :: r
abbrev S149 (n : Nat) (s L : List (Nat × Nat)) : zgb7:=((0,0),mpO s) :: ((5,0),.plain (.box [.dat (.int .i64 0),.nils])) :: ((6,0),.plain (.box [.dat (Nn n),gV (6,1) L])) :: gS (6,1) L
theorem in149 (n : Nat) (s : List (Nat × Nat)) (hn : n ≤ 64) (a : Nat) (ha : a < n) (st : St)
  (hs : hd [0,1,4,5,6,10,11,14,15] [1,4,5] st = some ⟨E149 n a [(6,.dat (Nn a)),(10,.dat (Nn n)),(11,.dat (Nn a)),(14,.dat (Nn n)),(15,.dat (Nn 0))],S149 n s (prA n (memP s) a)⟩) :
  Ev (zva7 (exec K l149_0) st) fun q => q.1 = .exit 2 ∧ hd [0,1,4,5,10,11] [] q.2 = some ⟨E149 n a [(10,.dat (Nn n)),(11,.dat (Nn a))],S149 n s (prA n (memP s) (a + 1))⟩:=by
 refine znd7 (live:=[0,1,4,5,6,10,11,14,15]) (drop:=[1,4,5]) n (fun b => ⟨E149 n a [(6,.dat (Nn a)),(10,.dat (Nn n)),(11,.dat (Nn a)),(14,.dat (Nn n)),(15,.dat (Nn b))],S149 n s (prB n (memP s) a b)⟩) (fun _ q => q.1 = .exit 2 ∧ hd [0,1,4,5,10,11] [] q.2 = some ⟨E149 n a [(10,.dat (Nn n)),(11,.dat (Nn a))],S149 n s (prA n (memP s) (a + 1))⟩)
  (fun b st hb hs => ?_) (fun st hs => ?_) n 0 st (by omega) (by rw [prB_zero]; exact hs)
 ·have hlt : (b : Int) < n:=by omega
  have ix : Ix b:=by unfold Ix; omega
  have hle:=prB_le n (memP s) a b ha (by omega)
  have hnn : n * n ≤ 64 * 64:=Nat.mul_le_mul hn hn
  have hsu:=zfe7 n (memP s) a b
  generalize prB n (memP s) a b = L at *
  have hr : (L.length + 1) * 17 ≤ 1099511627776:=by omega
  cases hx : ixN (a,b) s with
  | none =>
   rw [memP_f hx] at hsu
   simp only [Bool.false_eq_true,if_false] at hsu
   cases L with
   | nil => simp [hsu,hs,hlt,ix,zla7,zta7,lkpE,keyE,find_N,hx,zea7,zxa7,zeroV]
   | cons p L => simp [hsu,hs,hlt,ix,zda7,zfa7,lkpE,keyE,find_N,hx,zea7,zxa7,zeroV]
  | some j =>
   have hg:=ME_get hx
   rw [memP_t hx] at hsu
   simp only [if_true] at hsu
   cases L with
   | nil => simp [hsu,hs,hlt,ix,zla7,zta7,zda7,zfa7,lkpE,keyE,find_N,hx,zea7,zxa7,zeroV,hg,hr]
   | cons p L =>
    simp at hr
    simp [hsu,hs,hlt,ix,zda7,zfa7,lkpE,keyE,find_N,hx,zea7,zxa7,zeroV,hg,hr]
 ·rw [prB_n] at hs
  generalize prA n (memP s) (a + 1) = L at *
  cases L with
  | nil => simp [hs,zla7,zta7]
  | cons p L => simp [hs,zda7,zfa7]
theorem run149 (n : Nat) (s : List (Nat × Nat)) (hn : n ≤ 64) : K 149 [.dat (Nn n),.bref false ((0,0),0,0)] [mpO s] = some (.dat (Rel n (prs n (memP s))),[mpO s]):=ce rfl (by
 simp
 simp only [zca7]
 refine (znd7 (live:=[0,1,4,5,10,11]) (drop:=[1,4,5]) n (fun a => ⟨E149 n a [(10,.dat (Nn n)),(11,.dat (Nn a))],S149 n s (prA n (memP s) a)⟩) (fun _ q => q.1 = .exit 0 ∧ hd [4,5] [] q.2 = some ⟨[(4,.ref ((5,0),0,0) 0),(5,.ref ((6,0),0,0) 0)],S149 n s (prs n (memP s))⟩)
  (fun a st ha hs => ?_) (fun st hs => ?_) n 0 _ (by omega) (by simp [zjf7,zla7,zta7])).mono ?_
 ·have hlt : (a : Int) < n:=by omega
  have ix : Ix a:=by unfold Ix; omega
  have hin:=in149 n s hn a ha
  generalize prA n (memP s) a = L at *
  generalize hL' : prA n (memP s) (a + 1) = L' at *
  have fin : ∀ q : AEx × St,(q.1 = .exit 2 ∧ hd [0,1,4,5,10,11] [] q.2 = some ⟨E149 n a [(10,.dat (Nn n)),(11,.dat (Nn a))],S149 n s L'⟩) → True:=fun _ _ => trivial
  cases L with
  | nil =>
   simp [hs,hlt,ix,zla7,zta7]
   simp only [zca7]
   refine (hin _ (by simp [zla7,zta7])).mono ?_
   rintro ⟨_,st⟩ ⟨rfl,hs⟩
   dsimp only at hs
   cases L' with
   | nil => simp [hs,ix,zla7,zta7,hL']
   | cons p L' => simp [hs,ix,zda7,zfa7,hL']
  | cons p L =>
   simp [hs,hlt,ix,zda7,zfa7]
   simp only [zca7]
   refine (hin _ (by simp [zda7,zfa7])).mono ?_
   rintro ⟨_,st⟩ ⟨rfl,hs⟩
   dsimp only at hs
   cases L' with
   | nil => simp [hs,ix,zla7,zta7,hL']
   | cons p L' => simp [hs,ix,zda7,zfa7,hL']
 ·rw [prA_n] at hs
  generalize prs n (memP s) = L at *
  cases L with
  | nil => simp [hs,zla7,zta7]
  | cons p L => simp [hs,zda7,zfa7]
 ·rintro ⟨_,st⟩ ⟨rfl,hs⟩
  dsimp only at hs
  generalize prs n (memP s) = L at *
  cases L with
  | nil => simp [hs,zla7,zta7]
  | cons p L => simp [hs,zda7,zfa7])
theorem prs_congr {n : Nat} {P Q : Nat → Nat → Bool} (h : ∀ a b,a < n → b < n → P a b = Q a b) : prs n P = prs n Q:=by
 unfold prs
 have : ∀ l : List Nat,(∀ a ∈ l,a < n) → l.flatMap (fun a => ((List.range n).filter (P a)).map fun b => (a,b)) = l.flatMap fun a => ((List.range n).filter (Q a)).map fun b => (a,b):=by
  intro l
  induction l with
  | nil => intro _; rfl
  | cons a l ih =>
   intro hl
   rw [List.flatMap_cons,List.flatMap_cons,ih fun x hx => hl x (by simp [hx])]
   congr 2
   apply List.filter_congr
   intro b hb
   exact h a b (hl a (by simp)) (List.mem_range.1 hb)
 exact this _ fun a ha => List.mem_range.1 ha
theorem run107 {n : Nat} {ps : List (Nat × Nat)} (h : inN n ps) : K 107 [.dat (Rel n ps)] [] = some (.dat (Rel n (prs n fun a b => decide ((a,b) ∈ ps))),[]):=ce rfl (by
 have h1:=run63 h
 have h2:=run152 n ps h.2.1
 have h3:=run149 n (setN ps) h.1
 rw [prs_congr (Q:=fun a b => decide ((a,b) ∈ ps)) (fun a b _ _ => by simp [memP,setN_mem])] at h3
 simp [h1,h2,h3])
theorem run113 (ps : List (Nat × Nat)) (hl : ps.length < 1000000) (a b : Nat) : ∃ i : Int,(0 ≤ i ↔ (a,b) ∈ ps) ∧ K 113 [.dat (.sl (ps.map PD)),.dat (PD (a,b))] [] = some (.dat (Nn i),[]):=by
 have key : Ev (zkd7 K fn113 [.dat (.sl (ps.map PD)),.dat (PD (a,b))] []) fun r => ∃ i : Int,(0 ≤ i ↔ (a,b) ∈ ps) ∧ r = (.dat (Nn i),[]):=by
  simp
  simp only [zca7]
  refine (zwc7 (live:=[0,3,7,8]) (drop:=[]) ps (by omega) (fun k => ⟨[(0,.dat (.sl (ps.map PD))),(3,.ref ((4,0),0,0) 0),(7,.dat (Nn ps.length)),(8,.dat (Nn k))],[((4,0),.plain (.box [.dat (Nn a),.dat (Nn b)]))]⟩)
   (fun k q => (q.1 = .exit 0 ∧ (a,b) ∉ ps.drop k ∧ hd [] [] q.2 = some ⟨[],[((4,0),.plain (.box [.dat (Nn a),.dat (Nn b)]))]⟩) ∨ (q.1 = .ret ∧ ∃ i : Nat,(a,b) ∈ ps.drop k ∧ endK [.t 4] false 0 q = some (.dat (Nn i),[]))) (fun i p s g1 g2 g3 ix hs => ?_) (fun s hs => ?_) _ (by simp)).mono ?_
  ·have hdr:=drop_get g1
   obtain ⟨c,d⟩:=p
   by_cases h1 : a = c
   ·subst h1
    by_cases h2 : b = d
    ·subst h2
     simp [hs,g1,g2,g3,ix,zea7,zxa7,hdr]
    ·have h2' : ¬ (b : Int) = d:=by omega
     simp [hs,g1,g2,g3,ix,zea7,zxa7,h2,h2',hdr]
   ·have h1' : ¬ (a : Int) = c:=by omega
    simp [hs,g1,g2,g3,ix,zea7,zxa7,h1,h1',hdr]
  ·simp [hs]
  ·rintro ⟨y,s⟩ (⟨rfl,hq,hh⟩ | ⟨rfl,i,hm,hq⟩)
   ·rw [List.drop_zero] at hq
    dsimp only at hh
    simp [hq,hh]
   ·rw [List.drop_zero] at hm
    simp [hq,hm]
 obtain ⟨r,hr,i,h1,rfl⟩:=key
 exact ⟨i,h1,ce (fn:=fn113) rfl ⟨_,hr,rfl⟩⟩
theorem run64 (ps : List (Nat × Nat)) (hl : ps.length < 1000000) (a b : Nat) : K 64 [.dat (.sl (ps.map PD)),.dat (PD (a,b))] [] = some (.dat (.bool (decide ((a,b) ∈ ps))),[]):=ce rfl (by
 obtain ⟨i,h1,h2⟩:=run113 ps hl a b
 by_cases h : (a,b) ∈ ps
 ·have:=h1.2 h
  simp [h2,h,this]
 ·have : ¬ 0 ≤ i:=fun x => h (h1.1 x)
  simp [h2,h,this])
theorem run36 {n : Nat} {ps : List (Nat × Nat)} (h : inN n ps) (a b : Nat) : K 36 [.dat (Rel n ps),.dat (Nn a),.dat (Nn b)] [] = some (.dat (.bool (decide ((a,b) ∈ ps))),[]):=ce rfl (by
 have h1:=run63 h
 have h2:=run64 ps h.2.1 a b
 simp [h1,h2])
end Go.Am.E

set_option maxRecDepth 10000
set_option maxHeartbeats 4000000
namespace Go.Am.E
open Go.Proofs Go.Rc Go.Rg
abbrev Tab2:=Nat → Nat → Bool
def tabD (n : Nat) (T : Tab2) : List Dat:=(List.range (n * n)).map fun x => .bool (T (x / n) (x % n))
def upd2 (T : Tab2) (a b : Nat) (v : Bool) : Tab2:=fun x y => if x = a ∧ y = b then v else T x y
theorem cell_lt {a b n : Nat} (ha : a < n) (hb : b < n) : a * n + b < n * n:=by
 have h1 : (a + 1) * n ≤ n * n:=Nat.mul_le_mul_right n ha
 rw [Nat.add_mul,Nat.one_mul] at h1
 omega
theorem cell_div {a b n : Nat} (hb : b < n) : (a * n + b) / n = a ∧ (a * n + b) % n = b:=by
 have hn : 0 < n:=by omega
 rw [Nat.mul_comm,Nat.mul_add_div hn,Nat.mul_add_mod,Nat.div_eq_of_lt hb,Nat.mod_eq_of_lt hb]
 exact ⟨rfl,rfl⟩
theorem zqb7 (n : Nat) (T : Tab2) : (tabD n T).length = n * n:=by simp [tabD]
theorem tabD_get {n a b : Nat} (T : Tab2) (ha : a < n) (hb : b < n) : (tabD n T)[a * n + b]? = some (.bool (T a b)):=by
 have h:=cell_lt ha hb
 obtain ⟨h1,h2⟩:=cell_div (a:=a) hb
 simp only [tabD,List.getElem?_map,List.getElem?_range h,Option.map_some,h1,h2]
theorem tabD_at {n a b : Nat} (T : Tab2) (ha : a < n) (hb : b < n) (h : a * n + b < (tabD n T).length) : (tabD n T)[a * n + b] = .bool (T a b):=by
 have:=tabD_get T ha hb
 rw [List.getElem?_eq_getElem h] at this
 exact Option.some.inj this
theorem tabD_set {n a b : Nat} (T : Tab2) (ha : a < n) (hb : b < n) (v : Bool) : (tabD n T).set (a * n + b) (.bool v) = tabD n (upd2 T a b v):=by
 apply List.ext_getElem?
 intro i
 rw [List.getElem?_set]
 have hlt:=cell_lt ha hb
 obtain ⟨d1,d2⟩:=cell_div (a:=a) hb
 split
 ·rename_i e
  subst e
  rw [if_pos (by rw [zqb7]; exact hlt),tabD_get _ ha hb]
  simp [upd2]
 ·rename_i e
  by_cases hi : i < n * n
  ·simp only [tabD,List.getElem?_map,List.getElem?_range hi,Option.map_some,upd2]
   rw [if_neg]
   rintro ⟨h1,h2⟩
   apply e
   have:=Nat.div_add_mod i n
   rw [h1,h2,Nat.mul_comm] at this
   exact this
  ·rw [List.getElem?_eq_none (by rw [zqb7]; omega),List.getElem?_eq_none (by rw [zqb7]; omega)]
theorem zsd7 {n : Nat} {T U : Tab2} (h : ∀ a b,a < n → b < n → T a b = U a b) : tabD n T = tabD n U:=by
 unfold tabD
 apply List.map_congr_left
 intro x hx
 have hx:=List.mem_range.1 hx
 have hn : 0 < n:=by
  by_cases h0 : n = 0
  ·subst h0; simp at hx
  ·omega
 rw [h _ _ (Nat.div_lt_of_lt_mul hx) (Nat.mod_lt _ hn)]
theorem ixA {a b n : Nat} (ha : a < n) (hb : b < n) (hn : n ≤ 64) : (a : Int) * n < 1000000000000000 ∧ -1000000000000000 < (a : Int) * n ∧ (a : Int) * n + b < 1000000000000000 ∧ -1000000000000000 < (a : Int) * n + b ∧ (0 : Int) ≤ (a : Int) * n + b ∧ ((a : Int) * n + b).toNat = a * n + b ∧ (a : Int) * n + b < (n : Int) * n:=by
 have h:=cell_lt ha hb
 have h2 : n * n ≤ 64 * 64:=Nat.mul_le_mul hn hn
 have e1 : (a : Int) * n = ((a * n : Nat) : Int):=by simp
 have e2 : (n : Int) * n = ((n * n : Nat) : Int):=by simp
 rw [e1,e2]
 omega
theorem run159 {n : Nat} {ps : List (Nat × Nat)} (h : inN n ps) : K 159 [.dat (Rel n ps)] [] = some (.rsl ((0,0),0,0) 0 1 0 (n * n),[.plain (.arr 1 0 false (tabD n (memP ps)))]):=ce rfl (by
 obtain ⟨hn,hl,hb⟩:=h
 have h2 : n * n ≤ 64 * 64:=Nat.mul_le_mul hn hn
 have e2 : (n : Int) * n = ((n * n : Nat) : Int):=by simp
 have w1 : (n : Int) * n < 1000000000000000:=by rw [e2]; omega
 have w2 : -1000000000000000 < (n : Int) * n:=by rw [e2]; omega
 have w3 : (0 : Int) ≤ (n : Int) * n:=by rw [e2]; omega
 have w4 : (n : Int) * n ≤ 1099511627776:=by rw [e2]; omega
 have w5 : ((n : Int) * n).toNat = n * n:=by rw [e2]; omega
 have hz : List.replicate (n * n) (Dat.bool false) = tabD n (memP []):=by
  apply List.ext_getElem?
  intro i
  by_cases hi : i < n * n
  ·simp [tabD,hi,memP]
  ·rw [List.getElem?_eq_none (by simp; omega),List.getElem?_eq_none (by rw [zqb7]; omega)]
 simp [w1,w2,w3,w4,w5]
 simp only [zca7]
 refine (zwc7 (live:=[1,3,4]) (drop:=[]) ps (by omega) (fun k => ⟨[(1,.ref ((2,0),0,0) 0),(3,.rsl ((11,0),0,0) 0 1 0 (n * n)),(4,.dat (Nn k))],[((2,0),.plain (.box [.dat (Nn n),.dat (.sl (ps.map PD))])),((11,0),.plain (.arr 1 0 false (tabD n (memP (ps.take k)))))]⟩)
  (fun _ q => q.1 = .exit 0 ∧ hd [3] [] q.2 = some ⟨[(3,.rsl ((11,0),0,0) 0 1 0 (n * n))],[((2,0),.plain (.box [.dat (Nn n),.dat (.sl (ps.map PD))])),((11,0),.plain (.arr 1 0 false (tabD n (memP ps))))]⟩) (fun i p s g1 g2 g3 ix hs => ?_) (fun s hs => ?_) _ (by simp [hz])).mono ?_
 ·obtain ⟨a,b⟩:=p
  obtain ⟨ha,hb⟩:=hb (a,b) (List.mem_of_getElem? g1)
  dsimp only at ha hb
  obtain ⟨f1,f2,f3,f4,f5,f6,f7⟩:=ixA ha hb hn
  have hlt:=cell_lt ha hb
  have hset:=tabD_set (memP (ps.take i)) ha hb true
  have hc : tabD n (upd2 (memP (ps.take i)) a b true) = tabD n (memP (ps.take (i + 1))):=by
   apply zsd7
   intro x y _ _
   have ht : ps.take (i + 1) = ps.take i ++ [(a,b)]:=by rw [List.take_add_one,g1]; rfl
   rw [ht]
   simp only [upd2,memP,List.mem_append,List.mem_singleton,Prod.mk.injEq]
   by_cases h : x = a ∧ y = b <;> simp [h]
  rw [hc] at hset
  have hat:=tabD_at (memP (ps.take i)) ha hb (by rw [zqb7]; exact hlt)
  simp [hat,hs,g1,g2,g3,ix,f1,f2,f3,f4,f5,f6,f7,hlt,zqb7,hset]
 ·rw [List.take_length] at hs
  simp [hs]
 ·rintro ⟨_,s⟩ ⟨rfl,hs⟩
  dsimp only at hs
  simp [hs])
theorem war_self {R : Tab2} (m b : Nat) : (war R m m b || (war R m m m && war R m m b)) = war R m m b:=by
 cases war R m m b <;> simp
def wTab (R : Tab2) (m a b : Nat) : Tab2:=fun x y => if x < a ∨ (x = a ∧ y < b) then war R (m + 1) x y else war R m x y
abbrev S117 (n : Nat) (ps : List (Nat × Nat)) (T : Tab2) : zgb7:=[((2,0),.plain (.box [.dat (Nn n),.dat (.sl (ps.map PD))])),((10,0),.plain (.arr 1 0 false (tabD n T)))]
theorem in117 (n : Nat) (ps : List (Nat × Nat)) (hn : n ≤ 64) (R : Tab2) (m a : Nat) (hm : m < n) (ha : a < n) (s : St)
  (hs : hd [3,4,5,6,7] [] s = some ⟨[(3,.rsl ((10,0),0,0) 0 1 0 (n * n)),(4,.dat (Nn n)),(5,.dat (Nn m)),(6,.dat (Nn a)),(7,.dat (Nn 0))],S117 n ps (wTab R m a 0)⟩) :
  Ev (zva7 (exec K l117_0) s) fun q => q.1 = .exit 4 ∧ hd [3,4,5,6] [] q.2 = some ⟨[(3,.rsl ((10,0),0,0) 0 1 0 (n * n)),(4,.dat (Nn n)),(5,.dat (Nn m)),(6,.dat (Nn a))],S117 n ps (wTab R m (a + 1) 0)⟩:=by
 have hwl : (n : Int) * n = ((n * n : Nat) : Int):=by simp
 have hcol : ∀ b,b ≤ n → wTab R m a b a m = war R m a m:=by
  intro b hb
  simp only [wTab]
  split
  ·rw [war]
   cases war R m a m <;> cases war R m m m <;> simp
  ·rfl
 have hrow : ∀ b y,wTab R m a b m y = war R m m y:=by
  intro b y
  simp only [wTab]
  split
  ·rw [war,war_self]
  ·rfl
 by_cases hc : war R m a m = true
 ·refine znd7 (live:=[3,4,5,6,7]) (drop:=[]) n (fun b => ⟨[(3,.rsl ((10,0),0,0) 0 1 0 (n * n)),(4,.dat (Nn n)),(5,.dat (Nn m)),(6,.dat (Nn a)),(7,.dat (Nn b))],S117 n ps (wTab R m a b)⟩) (fun _ q => q.1 = .exit 4 ∧ hd [3,4,5,6] [] q.2 = some ⟨[(3,.rsl ((10,0),0,0) 0 1 0 (n * n)),(4,.dat (Nn n)),(5,.dat (Nn m)),(6,.dat (Nn a))],S117 n ps (wTab R m (a + 1) 0)⟩)
   (fun b s hb hs => ?_) (fun s hs => ?_) n 0 s (by omega) hs
  ·have hlt : (b : Int) < n:=by omega
   have ix : Ix b:=by unfold Ix; omega
   obtain ⟨f1,f2,f3,f4,f5,f6,f7⟩:=ixA ha hm hn
   obtain ⟨k1,k2,k3,k4,k5,k6,k7⟩:=ixA ha hb hn
   obtain ⟨j1,j2,j3,j4,j5,j6,j7⟩:=ixA hm hb hn
   have g1:=tabD_at (wTab R m a b) ha hm (by rw [zqb7]; exact cell_lt ha hm)
   have g2:=tabD_at (wTab R m a b) ha hb (by rw [zqb7]; exact cell_lt ha hb)
   have g3:=tabD_at (wTab R m a b) hm hb (by rw [zqb7]; exact cell_lt hm hb)
   rw [hcol b (by omega),hc] at g1
   rw [hrow] at g3
   have e0 : wTab R m a b a b = war R m a b:=by simp [wTab]
   rw [e0] at g2
   have hset:=fun v => tabD_set (wTab R m a b) ha hb v
   have hnext : tabD n (upd2 (wTab R m a b) a b (war R m a b || war R m m b)) = tabD n (wTab R m a (b + 1)):=by
    apply zsd7
    intro x y _ _
    simp only [upd2,wTab]
    by_cases hx : x = a ∧ y = b
    ·obtain ⟨rfl,rfl⟩:=hx
     simp [war,hc]
    ·rw [if_neg hx]
     by_cases hx2 : x < a ∨ (x = a ∧ y < b)
     ·rw [if_pos hx2,if_pos (by omega)]
     ·rw [if_neg hx2,if_neg (by omega)]
   have c1:=cell_lt ha hm
   have c2:=cell_lt ha hb
   have c3:=cell_lt hm hb
   rw [← hset] at hnext
   cases hv : war R m a b <;> rw [hv] at g2 hnext
   ·rw [Bool.false_or] at hnext
    simp [hs,hlt,ix,f1,f2,f3,f4,f5,f6,f7,k1,k2,k3,k4,k5,k6,k7,j1,j2,j3,j4,j5,j6,j7,g1,g2,g3,c1,c2,c3,zqb7,hnext]
   ·rw [Bool.true_or] at hnext
    simp [hs,hlt,ix,f1,f2,f3,f4,f5,f6,f7,k1,k2,k3,k4,k5,k6,k7,j1,j2,j3,j4,j5,j6,j7,g1,g2,g3,c1,c2,c3,zqb7,hnext]
  ·have e : tabD n (wTab R m a n) = tabD n (wTab R m (a + 1) 0):=by
    apply zsd7
    intro x y hx hy
    simp only [wTab]
    by_cases h : x < a ∨ (x = a ∧ y < n)
    ·rw [if_pos h,if_pos (by omega)]
    ·rw [if_neg h,if_neg (by omega)]
   simp [hs,e]
 ·have hc0 : war R m a m = false:=by simpa using hc
  apply zle7
  have hlt : (0 : Int) < n:=by omega
  obtain ⟨f1,f2,f3,f4,f5,f6,f7⟩:=ixA ha hm hn
  have g1:=tabD_at (wTab R m a 0) ha hm (by rw [zqb7]; exact cell_lt ha hm)
  rw [hcol 0 (by omega),hc0] at g1
  have c1:=cell_lt ha hm
  have hnn : 0 < n:=by omega
  have e : tabD n (wTab R m a 0) = tabD n (wTab R m (a + 1) 0):=by
   apply zsd7
   intro x y hx hy
   simp only [wTab]
   by_cases h : x < a
   ·rw [if_pos (by omega),if_pos (by omega)]
   ·by_cases h2 : x = a
    ·subst h2
     rw [if_neg (by omega),if_pos (by omega),war,hc0]
     simp
    ·rw [if_neg (by omega),if_neg (by omega)]
  simp [hs,hlt,hnn,f1,f2,f3,f4,f5,f6,f7,g1,c1,zqb7,e.symm]
end Go.Am.E

set_option maxRecDepth 10000
set_option maxHeartbeats 4000000
namespace Go.Am.E
open Go.Proofs Go.Rc Go.Rg
abbrev V117 (n : Nat) : Nat × AVal:=(3,.rsl ((10,0),0,0) 0 1 0 (n * n))
theorem md117 (n : Nat) (ps : List (Nat × Nat)) (hn : n ≤ 64) (R : Tab2) (m : Nat) (hm : m < n) (s : St)
  (hs : hd [3,4,5,6] [] s = some ⟨[V117 n,(4,.dat (Nn n)),(5,.dat (Nn m)),(6,.dat (Nn 0))],S117 n ps (war R m)⟩) :
  Ev (zva7 (exec K l117_1) s) fun q => q.1 = .exit 2 ∧ hd [3,4,5] [] q.2 = some ⟨[V117 n,(4,.dat (Nn n)),(5,.dat (Nn m))],S117 n ps (war R (m + 1))⟩:=by
 have h0 : tabD n (wTab R m 0 0) = tabD n (war R m):=zsd7 fun a b _ _ => by simp [wTab]
 have hN : tabD n (wTab R m n 0) = tabD n (war R (m + 1)):=zsd7 fun a b ha _ => by simp [wTab,ha]
 refine znd7 (live:=[3,4,5,6]) (drop:=[]) n (fun a => ⟨[V117 n,(4,.dat (Nn n)),(5,.dat (Nn m)),(6,.dat (Nn a))],S117 n ps (wTab R m a 0)⟩) (fun _ q => q.1 = .exit 2 ∧ hd [3,4,5] [] q.2 = some ⟨[V117 n,(4,.dat (Nn n)),(5,.dat (Nn m))],S117 n ps (war R (m + 1))⟩)
  (fun a s ha hs => ?_) (fun s hs => ?_) n 0 s (by omega) (by rw [hs]; simp [h0])
 ·have hlt : (a : Int) < n:=by omega
  have ix : Ix a:=by unfold Ix; omega
  simp [hs,hlt]
  simp only [zca7]
  refine (in117 n ps hn R m a hm ha _ (by simp)).mono ?_
  rintro ⟨_,s⟩ ⟨rfl,hs⟩
  dsimp only at hs
  simp [hs,ix]
 ·simp [hs,hN]
theorem run117 {n : Nat} {ps : List (Nat × Nat)} (h : inN n ps) : K 117 [.dat (Rel n ps)] [] = some (.dat (.sl (tabD n (war (memP ps) n))),[]):=ce rfl (by
 have h1:=run159 h
 have hn:=h.1
 have h0 : tabD n (war (memP ps) 0) = tabD n (memP ps):=rfl
 simp [h1]
 simp only [zca7]
 refine (znd7 (live:=[3,4,5]) (drop:=[]) n (fun m => ⟨[V117 n,(4,.dat (Nn n)),(5,.dat (Nn m))],S117 n ps (war (memP ps) m)⟩) (fun _ q => q.1 = .exit 0 ∧ hd [3] [] q.2 = some ⟨[V117 n],S117 n ps (war (memP ps) n)⟩)
  (fun m s hm hs => ?_) (fun s hs => ?_) n 0 _ (by omega) (by simp [h0])).mono ?_
 ·have hlt : (m : Int) < n:=by omega
  have ix : Ix m:=by unfold Ix; omega
  simp [hs,hlt]
  simp only [zca7]
  refine (md117 n ps hn (memP ps) m hm _ (by simp)).mono ?_
  rintro ⟨_,s⟩ ⟨rfl,hs⟩
  dsimp only at hs
  simp [hs,ix]
 ·simp [hs]
 ·rintro ⟨_,s⟩ ⟨rfl,hs⟩
  dsimp only at hs
  simp [hs,zqb7])
abbrev E116 (n : Nat) (T : Tab2) (r : Env) : Env:=(0,.dat (Nn n)) :: (1,.dat (.sl (tabD n T))) :: (4,.ref ((5,0),0,0) 0) :: (5,.ref ((6,0),0,0) 0) :: r
abbrev S116 (n : Nat) (L : List (Nat × Nat)) : zgb7:=((5,0),.plain (.box [.dat (.int .i64 0),.nils])) :: ((6,0),.plain (.box [.dat (Nn n),gV (6,1) L])) :: gS (6,1) L
theorem in116 (n : Nat) (T : Tab2) (hn : n ≤ 64) (a : Nat) (ha : a < n) (st : St)
  (hs : hd [0,1,4,5,6,7] [1,4,5] st = some ⟨E116 n T [(6,.dat (Nn a)),(7,.dat (Nn 0))],S116 n (prA n T a)⟩) :
  Ev (zva7 (exec K l116_0) st) fun q => q.1 = .exit 2 ∧ hd [0,1,4,5,6] [] q.2 = some ⟨E116 n T [(6,.dat (Nn a))],S116 n (prA n T (a + 1))⟩:=by
 refine znd7 (live:=[0,1,4,5,6,7]) (drop:=[1,4,5]) n (fun b => ⟨E116 n T [(6,.dat (Nn a)),(7,.dat (Nn b))],S116 n (prB n T a b)⟩) (fun _ q => q.1 = .exit 2 ∧ hd [0,1,4,5,6] [] q.2 = some ⟨E116 n T [(6,.dat (Nn a))],S116 n (prA n T (a + 1))⟩)
  (fun b st hb hs => ?_) (fun st hs => ?_) n 0 st (by omega) (by rw [prB_zero]; exact hs)
 ·have hlt : (b : Int) < n:=by omega
  have ix : Ix b:=by unfold Ix; omega
  have hle:=prB_le n T a b ha (by omega)
  have hnn : n * n ≤ 64 * 64:=Nat.mul_le_mul hn hn
  have hsu:=zfe7 n T a b
  obtain ⟨f1,f2,f3,f4,f5,f6,f7⟩:=ixA ha hb hn
  have c1:=cell_lt ha hb
  have g1:=tabD_at T ha hb (by rw [zqb7]; exact c1)
  generalize prB n T a b = L at *
  have hr : (L.length + 1) * 17 ≤ 1099511627776:=by omega
  cases hx : T a b with
  | false =>
   rw [hx] at hsu g1
   simp only [Bool.false_eq_true,if_false] at hsu
   cases L with
   | nil => simp [hsu,hs,hlt,ix,zla7,zta7,f1,f2,f3,f4,f5,f6,f7,c1,g1,zqb7]
   | cons p L => simp [hsu,hs,hlt,ix,zda7,zfa7,f1,f2,f3,f4,f5,f6,f7,c1,g1,zqb7]
  | true =>
   rw [hx] at hsu g1
   simp only [if_true] at hsu
   cases L with
   | nil => simp [hsu,hs,hlt,ix,zla7,zta7,zda7,zfa7,f1,f2,f3,f4,f5,f6,f7,c1,g1,zqb7,hr]
   | cons p L =>
    simp at hr
    simp [hsu,hs,hlt,ix,zda7,zfa7,f1,f2,f3,f4,f5,f6,f7,c1,g1,zqb7,hr]
 ·rw [prB_n] at hs
  generalize prA n T (a + 1) = L at *
  cases L with
  | nil => simp [hs,zla7,zta7]
  | cons p L => simp [hs,zda7,zfa7]
theorem run116 (n : Nat) (T : Tab2) (hn : n ≤ 64) : K 116 [.dat (Nn n),.dat (.sl (tabD n T))] [] = some (.dat (Rel n (prs n T)),[]):=ce rfl (by
 simp
 simp only [zca7]
 refine (znd7 (live:=[0,1,4,5,6]) (drop:=[1,4,5]) n (fun a => ⟨E116 n T [(6,.dat (Nn a))],S116 n (prA n T a)⟩) (fun _ q => q.1 = .exit 0 ∧ hd [4,5] [] q.2 = some ⟨[(4,.ref ((5,0),0,0) 0),(5,.ref ((6,0),0,0) 0)],S116 n (prs n T)⟩)
  (fun a st ha hs => ?_) (fun st hs => ?_) n 0 _ (by omega) (by simp [zjf7,zla7,zta7])).mono ?_
 ·have hlt : (a : Int) < n:=by omega
  have ix : Ix a:=by unfold Ix; omega
  have hin:=in116 n T hn a ha
  generalize prA n T a = L at *
  generalize hL' : prA n T (a + 1) = L' at *
  cases L with
  | nil =>
   simp [hs,hlt,ix,zla7,zta7]
   simp only [zca7]
   refine (hin _ (by simp [zla7,zta7])).mono ?_
   rintro ⟨_,st⟩ ⟨rfl,hs⟩
   dsimp only at hs
   cases L' with
   | nil => simp [hs,ix,zla7,zta7,hL']
   | cons p L' => simp [hs,ix,zda7,zfa7,hL']
  | cons p L =>
   simp [hs,hlt,ix,zda7,zfa7]
   simp only [zca7]
   refine (hin _ (by simp [zda7,zfa7])).mono ?_
   rintro ⟨_,st⟩ ⟨rfl,hs⟩
   dsimp only at hs
   cases L' with
   | nil => simp [hs,ix,zla7,zta7,hL']
   | cons p L' => simp [hs,ix,zda7,zfa7,hL']
 ·rw [prA_n] at hs
  generalize prs n T = L at *
  cases L with
  | nil => simp [hs,zla7,zta7]
  | cons p L => simp [hs,zda7,zfa7]
 ·rintro ⟨_,st⟩ ⟨rfl,hs⟩
  dsimp only at hs
  generalize prs n T = L at *
  cases L with
  | nil => simp [hs,zla7,zta7]
  | cons p L => simp [hs,zda7,zfa7])
theorem run66 {n : Nat} {ps : List (Nat × Nat)} (h : inN n ps) : K 66 [.dat (Rel n ps)] [] = some (.dat (Rel n (prs n (war (memP ps) n))),[]):=ce rfl (by
 have h1:=run69 h
 have h2:=run117 h
 have h3:=run116 n (war (memP ps) n) h.1
 simp [h1,h2,h3])
theorem run39 {n : Nat} {ps : List (Nat × Nat)} (h : inN n ps) (a b : Nat) : K 39 [.dat (Rel n ps),.dat (Nn a),.dat (Nn b)] [] = some (.dat (.bool (decide ((a,b) ∈ ps))),[]):=ce rfl (by
 have h1:=run69 h
 have hl:=h.2.1
 simp [h1]
 simp only [zca7]
 refine (zwc7 (live:=[1,2,3,7]) (drop:=[]) ps (by omega) (fun k => ⟨[(1,.dat (Nn a)),(2,.dat (Nn b)),(3,.ref ((4,0),0,0) 0),(7,.dat (Nn k))],[((4,0),.plain (.box [.dat (Nn n),.dat (.sl (ps.map PD))]))]⟩)
  (fun k q => (q.1 = .exit 0 ∧ (a,b) ∉ ps.drop k ∧ hd [] [] q.2 = some ⟨[],[((4,0),.plain (.box [.dat (Nn n),.dat (.sl (ps.map PD))]))]⟩) ∨ (q.1 = .ret ∧ (a,b) ∈ ps.drop k ∧ endK [.t 6] false 0 q = some (.dat (.bool true),[]))) (fun i p s g1 g2 g3 ix hs => ?_) (fun s hs => ?_) _ (by simp)).mono ?_
 ·have hdr:=drop_get g1
  obtain ⟨c,d⟩:=p
  by_cases h1 : a = c
  ·subst h1
   by_cases h2 : b = d
   ·subst h2
    simp [hs,g1,g2,g3,ix,hdr]
   ·have h2' : ¬ (d : Int) = b:=by omega
    have h2'' : ¬ d = b:=by omega
    simp [hs,g1,g2,g3,ix,h2,h2',h2'',hdr]
  ·have h1' : ¬ (c : Int) = a:=by omega
   have h1'' : ¬ c = a:=by omega
   simp [hs,g1,g2,g3,ix,h1,h1',h1'',hdr]
 ·simp [hs]
 ·rintro ⟨y,s⟩ (⟨rfl,hq,hh⟩ | ⟨rfl,hm,hq⟩)
  ·rw [List.drop_zero] at hq
   dsimp only at hh
   simp [hq,hh]
  ·rw [List.drop_zero] at hm
   simp [hq,hm])
end Go.Am.E

set_option maxRecDepth 10000
set_option maxHeartbeats 4000000
namespace Go.Am.E
open Go.Proofs Go.Rc Go.Rg
def succL (ps : List (Nat × Nat)) (a : Nat) : List Nat:=(ps.filter fun p => p.1 == a).map (·.2)
abbrev nnL (l : List Nat) : List Dat:=l.map fun x : Nat => Nn (x : Int)
def cellS : List Nat → Cell
 | [] => .nil
 | x :: l => .own true false 1 (nnL (x :: l))
def famS (n : Nat) (ps : List (Nat × Nat)) : List Cell:=(List.range n).map fun a => cellS (succL ps a)
def rowsD (n : Nat) (ps : List (Nat × Nat)) : List Dat:=(List.range n).map fun a => .sl (nnL (succL ps a))
theorem famS_len (n : Nat) (ps : List (Nat × Nat)) : (famS n ps).length = n:=by simp [famS]
theorem famS_get {n a : Nat} (ps : List (Nat × Nat)) (h : a < n) : (famS n ps)[a]? = some (cellS (succL ps a)):=by simp [famS,h]
theorem rowsD_len (n : Nat) (ps : List (Nat × Nat)) : (rowsD n ps).length = n:=by simp [rowsD]
theorem rowsD_get {n a : Nat} (ps : List (Nat × Nat)) (h : a < n) : (rowsD n ps)[a]? = some (.sl (nnL (succL ps a))):=by simp [rowsD,h]
theorem cellS_dat (l : List Nat) : (cellS l).dat = .sl (nnL l):=by cases l <;> rfl
theorem cellS_fresh (l : List Nat) : (cellS l).fresh = true:=by cases l <;> rfl
theorem famS_dat (n : Nat) (ps : List (Nat × Nat)) : (famS n ps).map Cell.dat = rowsD n ps:=by
 simp only [famS,rowsD,List.map_map]
 apply List.map_congr_left
 intro a _
 exact cellS_dat _
theorem famS_fresh (n : Nat) (ps : List (Nat × Nat)) : (famS n ps).all Cell.fresh = true:=by
 simp only [famS,List.all_map,List.all_eq_true,Function.comp]
 intro a _
 exact cellS_fresh _
theorem succL_app (ps : List (Nat × Nat)) (a b x : Nat) : succL (ps ++ [(a,b)]) x = if a = x then succL ps x ++ [b] else succL ps x:=by
 simp only [succL,List.filter_append,List.map_append]
 by_cases h : a = x <;> simp [h]
theorem famS_set {n a b : Nat} (ps : List (Nat × Nat)) (h : a < n) : (famS n ps).set a (.own true false 1 (nnL (succL ps a) ++ [Nn (b : Int)])) = famS n (ps ++ [(a,b)]):=by
 apply List.ext_getElem?
 intro i
 rw [List.getElem?_set]
 by_cases hi : i < n
 ·rw [famS_get _ hi,famS_len,famS_get _ hi,succL_app]
  by_cases e : a = i
  ·subst e
   rw [if_pos rfl,if_pos h,if_pos rfl]
   cases succL ps a <;> simp [cellS,nnL]
  ·rw [if_neg e,if_neg e]
 ·rw [List.getElem?_eq_none (l:=famS n _) (by rw [famS_len]; omega),List.getElem?_eq_none (l:=famS n _) (by rw [famS_len]; omega)]
  rw [if_neg (by omega)]
theorem famS_nil (n : Nat) : List.replicate n Cell.nil = famS n []:=by
 simp [famS,succL,cellS,List.map_const']
theorem succL_len (ps : List (Nat × Nat)) (a : Nat) : (succL ps a).length ≤ ps.length:=by
 simp only [succL,List.length_map]
 exact List.length_filter_le _ _
theorem rowsA_gets (r : RId) (pv : Nat) : ∀ (cs : List Cell) (i a : Nat) (c : Cell),cs[a]? = some c → (rowsA r pv i cs)[a]? = some [cellA r pv (i + a) c]
 | [],_,_,_,h => by simp at h
 | c :: cs,i,0,c',h => by
  cases h
  rfl
 | c :: cs,i,a + 1,c',h => by
  simp only [rowsA,List.getElem?_cons_succ] at h ⊢
  rw [rowsA_gets r pv cs (i + 1) a c' h]
  congr 3
  omega
theorem rowsA_at {r : RId} {pv : Nat} {cs : List Cell} {a : Nat} {c : Cell} (h : cs[a]? = some c) (hl : a < (rowsA r pv 0 cs).length) : (rowsA r pv 0 cs)[a] = [cellA r pv a c]:=by
 have:=rowsA_gets r pv cs 0 a c h
 rw [List.getElem?_eq_getElem hl,Nat.zero_add] at this
 exact Option.some.inj this
theorem run178 {n : Nat} {ps : List (Nat × Nat)} (h : inN n ps) : K 178 [.dat (Rel n ps)] [] = some (.dat (.sl (rowsD n (prs n fun a b => decide ((a,b) ∈ ps)))),[]):=ce rfl (by
 have h2:=run152 n ps h.2.1
 have h3:=run149 n (setN ps) h.1
 have hn:=h.1
 rw [prs_congr (Q:=fun a b => decide ((a,b) ∈ ps)) (fun a b _ _ => by simp [memP,setN_mem])] at h3
 have hlen:=prs_len n fun a b => decide ((a,b) ∈ ps)
 have hb : ∀ p ∈ prs n (fun a b => decide ((a,b) ∈ ps)),p.1 < n ∧ p.2 < n:=fun p hp => ⟨(prs_mem.1 hp).1,(prs_mem.1 hp).2.1⟩
 have hnn : n * n ≤ 64 * 64:=Nat.mul_le_mul hn hn
 generalize prs n (fun a b => decide ((a,b) ∈ ps)) = qs at *
 have w1 : (n : Int) * 24 ≤ 1099511627776:=by omega
 have w2 : 24 * (n : Int) ≤ 1099511627776:=by omega
 have w3 : (n : Int) ≤ 1099511627776:=by omega
 simp [h2,h3,w1,w2,w3,famS_nil]
 simp only [zca7]
 refine (zwc7 (live:=[3,14,15,16]) (drop:=[3,14]) qs (by omega) (fun k => ⟨[(3,.rsl ((4,0),0,0) 0 1 0 n),(14,.dat (.sl (qs.map PD))),(15,.dat (Nn qs.length)),(16,.dat (Nn k))],[((4,0),.fam 0 k false (famS n (qs.take k)))]⟩)
  (fun _ q => q.1 = .exit 0 ∧ hd [3] [] q.2 = some ⟨[(3,.rsl ((4,0),0,0) 0 1 0 n)],[((4,0),.fam 0 qs.length false (famS n qs))]⟩) (fun i p s g1 g2 g3 ix hs => ?_) (fun s hs => ?_) _ (by simp)).mono ?_
 ·obtain ⟨a,b⟩:=p
  obtain ⟨ha,hb'⟩:=hb (a,b) (List.mem_of_getElem? g1)
  dsimp only at ha hb'
  have ht : qs.take (i + 1) = qs.take i ++ [(a,b)]:=by rw [List.take_add_one,g1]; rfl
  have f1:=famS_get (qs.take i) ha
  have f2:=famS_set (b:=b) (qs.take i) ha
  have f3:=famS_len n (qs.take i)
  rw [← ht] at f2
  have hl:=succL_len (qs.take i) a
  simp only [List.length_take] at hl
  have ha' : (a : Int) < n:=by omega
  have f4:=fun hl => rowsA_at (r:=(4,0)) (pv:=i) (cs:=famS n (qs.take i)) (a:=a) f1 hl
  have f5 : ∀ hl,(famS n (qs.take i))[a]'hl = cellS (succL (qs.take i) a):=fun hl => by
   have:=f1
   rw [List.getElem?_eq_getElem hl] at this
   exact Option.some.inj this
  generalize succL (qs.take i) a = L at *
  generalize famS n (qs.take i) = F at *
  cases L with
  | nil =>
   simp [nnL] at f2
   simp [f2,hs,g1,g2,g3,ix,f1,f2,f3,ha,ha',f4,f5,cellS,cellA]
  | cons x L =>
   simp [nnL] at f2
   have hr : (L.length + 1 + 1) * 9 ≤ 1099511627776:=by simp at hl; omega
   simp [hs,g1,g2,g3,ix,f1,f2,f3,ha,ha',f4,f5,hr,cellS,cellA]
 ·rw [List.take_length] at hs
  simp [hs]
 ·rintro ⟨_,s⟩ ⟨rfl,hs⟩
  dsimp only at hs
  simp [hs,famS_dat,famS_fresh,famS_len,rowsD_len])
end Go.Am.E

set_option maxRecDepth 10000
set_option maxHeartbeats 4000000
namespace Go.Am.E
open Go.Proofs Go.Rc Go.Rg
abbrev dstep (nxt : Nat → List Nat) (a f : Nat) (s : List (Nat × Nat)) (c : Nat) : List (Nat × Nat):=if (a,c) ∈ s then s else dfs nxt a f c (s ++ [(a,c)])
theorem dfs_mono {nxt : Nat → List Nat} {a : Nat} : ∀ (f b : Nat) (s : List (Nat × Nat)),∀ x ∈ s,x ∈ dfs nxt a f b s
 | 0,b,s,x,h => h
 | f + 1,b,s,x,h => by
  rw [dfs]
  have : ∀ (l : List Nat) (s : List (Nat × Nat)),∀ x ∈ s,x ∈ l.foldl (dstep nxt a f) s:=by
   intro l
   induction l with
   | nil => intro s x h; exact h
   | cons c l ih =>
    intro s x h
    rw [List.foldl_cons]
    apply ih
    unfold dstep
    split
    ·exact h
    ·exact dfs_mono f c _ x (by simp [h])
  exact this _ s x h
theorem dfold_mono {nxt : Nat → List Nat} {a f : Nat} : ∀ (l : List Nat) (s : List (Nat × Nat)),∀ x ∈ s,x ∈ l.foldl (dstep nxt a f) s
 | [],s,x,h => h
 | c :: l,s,x,h => by
  rw [List.foldl_cons]
  apply dfold_mono l
  unfold dstep
  split
  ·exact h
  ·exact dfs_mono f c _ x (by simp [h])
abbrev VF : AVal:=.fn 179 [.ref ((0,0),0,0) 0,.ref ((0,1),0,0) 0,.ref ((0,2),0,0) 0,.ref ((0,3),0,0) 0]
abbrev VO (rows : List Dat) (a : Nat) (s : List (Nat × Nat)) : List TObj:=[.plain (.box [.dat (.sl rows)]),.plain (.box [.dat (Nn a)]),.plain (.box [.bref false ((0,4),0,0)]),.plain (.box [VF]),mpO s]
abbrev VS (rows : List Dat) (a : Nat) (s : List (Nat × Nat)) : zgb7:=[((0,0),.plain (.box [.dat (.sl rows)])),((0,1),.plain (.box [.dat (Nn a)])),((0,2),.plain (.box [.bref false ((0,4),0,0)])),((0,3),.plain (.box [VF])),((0,4),mpO s)]
theorem run179 {n : Nat} {qs : List (Nat × Nat)} (hqs : ∀ p ∈ qs,p.1 < n ∧ p.2 < n) (hql : qs.length ≤ 4096) (a : Nat) : ∀ (f b : Nat) (s : List (Nat × Nat)),b < n → unv n a s < f →
  K 179 [.dat (Nn b),.ref ((0,0),0,0) 0,.ref ((0,1),0,0) 0,.ref ((0,2),0,0) 0,.ref ((0,3),0,0) 0] (VO (rowsD n qs) a s) = some (.tup [],VO (rowsD n qs) a (dfs (succL qs) a f b s)):=by
 intro f
 induction f with
 | zero => intro b s _ h; omega
 | succ f ih =>
  intro b s hb hf
  have hg:=rowsD_get qs hb
  have hgl:=rowsD_len n qs
  have hb' : (b : Int) < n:=by omega
  have hlen:=succL_len qs b
  have hin : ∀ c ∈ succL qs b,c < n:=by
   intro c hc
   simp only [succL,List.mem_map,List.mem_filter] at hc
   obtain ⟨p,⟨hp,_⟩,rfl⟩:=hc
   exact (hqs p hp).2
  rw [dfs]
  have hga : ∀ h : b < (rowsD n qs).length,(rowsD n qs)[b]'h = .sl (nnL (succL qs b)):=fun h => by
   rw [List.getElem?_eq_getElem h] at hg
   exact Option.some.inj hg
  refine ce rfl ?_
  generalize rowsD n qs = D at *
  generalize succL qs b = L at *
  simp [hg,hgl,hb',hb,hga]
  simp only [zca7]
  refine (zwc7 (live:=[2,3,4,12,13,14]) (drop:=[2,3,4,12]) L (by omega) (fun k => ⟨[(2,.ref ((0,1),0,0) 0),(3,.ref ((0,2),0,0) 0),(4,.ref ((0,3),0,0) 0),(12,.dat (.sl (nnL L))),(13,.dat (Nn L.length)),(14,.dat (Nn k))],VS D a ((L.take k).foldl (dstep (succL qs) a f) s)⟩)
   (fun _ q => q.1 = .exit 0 ∧ endK [] false 5 (.normal,q.2) = some (.tup [],VO D a (L.foldl (dstep (succL qs) a f) s))) (fun i c st g1 g2 g3 ix hs => ?_) (fun st hs => ?_) _ (by simp)).mono ?_
  ·have hcn:=hin c (List.mem_of_getElem? g1)
   have ht : L.take (i + 1) = L.take i ++ [c]:=by rw [List.take_add_one,g1]; rfl
   have e1 : (L.take (i + 1)).foldl (dstep (succL qs) a f) s = dstep (succL qs) a f ((L.take i).foldl (dstep (succL qs) a f) s) c:=by rw [ht,List.foldl_append,List.foldl_cons,List.foldl_nil]
   have hle:=unv_le (n:=n) (a:=a) (s:=s) (t:=(L.take i).foldl (dstep (succL qs) a f) s) (dfold_mono _ s)
   rw [dstep] at e1
   generalize (L.take i).foldl (dstep (succL qs) a f) s = S at e1 hs hle
   cases hx : ixN (a,c) S with
   | none =>
    have hno:=ixN_none.1 hx
    rw [if_neg hno] at e1
    have hc:=ih c (S ++ [(a,c)]) hcn (by have:=unv_lt hcn hno; omega)
    simp [e1,hs,g1,g2,g3,ix,lkpE,mupE,keyE,find_N,hx,zea7,zxa7,zeroV,hc,YID]
   | some j =>
    rw [if_pos (ixN_mem hx)] at e1
    have hget:=ME_get hx
    simp [e1,hs,g1,g2,g3,ix,lkpE,keyE,find_N,hx,zea7,zxa7,zeroV,hget]
  ·rw [List.take_length] at hs
   simp [hs]
  ·rintro ⟨_,st⟩ ⟨rfl,hq⟩
   dsimp only at hq
   simp [hq]
end Go.Am.E

set_option maxRecDepth 10000
set_option maxHeartbeats 4000000
namespace Go.Am.E
open Go.Proofs Go.Rc Go.Rg
def foundN (n : Nat) (qs : List (Nat × Nat)) : List (Nat × Nat):=zje7 (succL qs) n n
theorem dfsAll_step (nxt : Nat → List Nat) (n k : Nat) : zje7 nxt n (k + 1) = dfs nxt k (n + 1) k (zje7 nxt n k):=by simp [zje7,List.range_succ]
theorem run150 {n : Nat} {ps qs : List (Nat × Nat)} (h : inN n ps) (hq : qs = prs n fun a b => decide ((a,b) ∈ ps)) : K 150 [.dat (Rel n ps)] [] = some (.bref false ((0,0),0,0),[mpO (foundN n qs)]):=ce rfl (by
 have h1:=run178 h
 have hn:=h.1
 have hlen:=prs_len n fun a b => decide ((a,b) ∈ ps)
 have hb : ∀ p ∈ prs n (fun a b => decide ((a,b) ∈ ps)),p.1 < n ∧ p.2 < n:=fun p hp => ⟨(prs_mem.1 hp).1,(prs_mem.1 hp).2.1⟩
 have hnn : n * n ≤ 64 * 64:=Nat.mul_le_mul hn hn
 rw [← hq] at h1 hlen hb
 have h0 : ME (zje7 (succL qs) n 0) = []:=rfl
 simp [h1]
 simp only [zca7]
 refine (znd7 (live:=[3,4,11,12]) (drop:=[3,4]) n (fun k => ⟨[(3,.ref ((4,0),0,0) 0),(4,.ref ((5,0),0,0) 0),(11,.dat (Nn n)),(12,.dat (Nn k))],[((4,0),.plain (.box [.dat (.sl (rowsD n qs))])),((5,0),.plain (.box [.bref false ((5,1),0,0)])),((5,1),mpO (zje7 (succL qs) n k))]⟩)
  (fun _ q => q.1 = .exit 0 ∧ hd [4] [] q.2 = some ⟨[(4,.ref ((5,0),0,0) 0)],[((4,0),.plain (.box [.dat (.sl (rowsD n qs))])),((5,0),.plain (.box [.bref false ((5,1),0,0)])),((5,1),mpO (foundN n qs))]⟩)
  (fun k s hk hs => ?_) (fun s hs => ?_) n 0 _ (by omega) (by simp [h0])).mono ?_
 ·have hlt : (k : Int) < n:=by omega
  have ix : Ix k:=by unfold Ix; omega
  have hst:=dfsAll_step (succL qs) n k
  have hc:=run179 hb (by omega) k (n + 1) k (zje7 (succL qs) n k) hk (by have:=unv_n n k (zje7 (succL qs) n k); omega)
  generalize rowsD n qs = D at *
  generalize zje7 (succL qs) n k = S at *
  simp [hs,hlt,ix,hc,hst,YID]
 ·simp [hs,foundN]
 ·rintro ⟨_,s⟩ ⟨rfl,hs⟩
  dsimp only at hs
  simp [hs])
theorem succL_mem {qs : List (Nat × Nat)} {b c : Nat} : c ∈ succL qs b ↔ (b,c) ∈ qs:=by
 simp only [succL,List.mem_map,List.mem_filter]
 constructor
 ·rintro ⟨⟨x,y⟩,⟨h1,h2⟩,h3⟩
  simp at h2 h3
  subst h2 h3
  exact h1
 ·intro h
  exact ⟨(b,c),⟨h,by simp⟩,rfl⟩
def clo (n : Nat) (ps : List (Nat × Nat)) : List (Nat × Nat):=prs n (war (memP ps) n)
theorem clo_mem {n : Nat} {ps : List (Nat × Nat)} (h : inN n ps) {a c : Nat} : (a,c) ∈ clo n ps ↔ a < n ∧ c < n ∧ Pth (memP ps) a c:=by
 rw [clo,prs_mem,war_iff,PB_all]
 intro a b hab
 simp only [memP,decide_eq_true_eq] at hab
 exact (h.2.2 _ hab).2
theorem found_mem {n : Nat} {ps : List (Nat × Nat)} (h : inN n ps) {a c : Nat} : (a,c) ∈ foundN n (prs n fun a b => decide ((a,b) ∈ ps)) ↔ a < n ∧ Pth (memP ps) a c:=by
 rw [foundN]
 apply dfsAll_iff
 ·intro b c
  rw [succL_mem,prs_mem]
  simp only [memP,decide_eq_true_eq]
  exact ⟨fun h => h.2.2,fun hm => ⟨(h.2.2 _ hm).1,(h.2.2 _ hm).2,hm⟩⟩
 ·intro b c hc
  rw [succL_mem,prs_mem] at hc
  exact hc.2.1
theorem run104 {n : Nat} {ps : List (Nat × Nat)} (h : inN n ps) : K 104 [.dat (Rel n ps)] [] = some (.dat (Rel n (clo n ps)),[]):=ce rfl (by
 have h1:=run63 h
 have h2:=run150 h rfl
 have h3:=run149 n (foundN n (prs n fun a b => decide ((a,b) ∈ ps))) h.1
 have e : prs n (memP (foundN n (prs n fun a b => decide ((a,b) ∈ ps)))) = clo n ps:=by
  apply prs_congr
  intro a b ha hb
  have h4:=found_mem h (a:=a) (c:=b)
  have h5:=clo_mem h (a:=a) (c:=b)
  rw [clo,prs_mem] at h5
  simp only [memP] at h4 h5 ⊢
  rw [Bool.eq_iff_iff,decide_eq_true_eq,h4]
  exact ⟨fun h => (h5.2 ⟨ha,hb,h.2⟩).2.2,fun h => ⟨ha,(h5.1 ⟨ha,hb,h⟩).2.2⟩⟩
 rw [e] at h3
 simp [h1,h2,h3])
end Go.Am.E

namespace Go.Am
variable [Glob]
def yK4 (j m : Nat) (e : AEx) (s : St) : Option TObj → Option (AVal × List TObj)
 | some (.plain (.blk (.loop k .busy env))) => retK [.t 0] false m ⟨[(0,.dat (.bool (stOf e == .ready)))],pT s.objs (0,j) (.plain (.blk (.loop k (stOf e) env)))⟩
 | _ => none
def yK3 (j m : Nat) (p : AEx × St) : Option (AVal × List TObj):=yK4 j m p.1 p.2 (gT p.2.objs (0,j))
noncomputable def yK2 (K : Orc) (lp : ALoop) (j m : Nat) (s : St) : Option TObj → Option (AVal × List TObj)
 | some (.plain (.blk (.loop k .ready env))) => bnd (exec K lp.body ⟨s.env,pT s.objs (0,j) (.plain (.blk (.loop k .busy env)))⟩) (yK3 j m)
 | _ => none
noncomputable def yK1 (K : Orc) (lp : ALoop) (j m : Nat) : AEx × St → Option (AVal × List TObj)
 | (.normal,s) => yK2 K lp j m s (gT s.objs (0,j))
 | _ => none
@[simp] theorem yK1_n (K : Orc) (lp : ALoop) (j m : Nat) (env : Env) (objs : zgb7) : yK1 K lp j m (.normal,⟨env,objs⟩) = yK2 K lp j m ⟨env,objs⟩ (gT objs (0,j)):=rfl
@[simp] theorem yK2_s (K : Orc) (lp : ALoop) (j m : Nat) (k : Nat) (e env : Env) (objs : zgb7) : yK2 K lp j m ⟨e,objs⟩ (some (.plain (.blk (.loop k .ready env)))) = bnd (exec K lp.body ⟨e,pT objs (0,j) (.plain (.blk (.loop k .busy env)))⟩) (yK3 j m):=rfl
@[simp] theorem yK3_s (j m : Nat) (x : AEx) (env : Env) (objs : zgb7) : yK3 j m (x,⟨env,objs⟩) = yK4 j m x ⟨env,objs⟩ (gT objs (0,j)):=rfl
@[simp] theorem yK4_s (j m k : Nat) (x : AEx) (e env : Env) (objs : zgb7) : yK4 j m x ⟨e,objs⟩ (some (.plain (.blk (.loop k .busy env)))) = retK [.t 0] false m ⟨[(0,.dat (.bool (stOf x == .ready)))],pT objs (0,j) (.plain (.blk (.loop k (stOf x) env)))⟩:=rfl
@[simp] theorem stOf_n : stOf .normal = .ready:=rfl
@[simp] theorem stOf_r : stOf .ret = .done .ret:=rfl
@[simp] theorem stOf_e (k : Nat) : stOf (.exit k) = .done (.exit k):=rfl
@[simp] theorem rdy (x : AEx) : (LSt.done x == LSt.ready) = false:=rfl
@[simp] theorem rdy' : (LSt.ready == LSt.ready) = true:=rfl
attribute [congr] exec_congr
theorem yield_ev {tbl : Tab} {k j : Nat} {env : Env} {lp : ALoop} {args : List AVal} {os : List TObj} {r : AVal × List TObj} (hl : args.getLast? = some (.bref true ((0,j),0,0))) (ho : os[j]? = some (.plain (.blk (.loop k .ready env))))
  (hk : tbl.lp k = some lp) (hn : args.length = lp.ps.length + 1) (h : Ev (bnd (exec (callT tbl) lp.assign ⟨lp.ps.zip args ++ env,(enter [] os).objs⟩) (yK1 (callT tbl) lp j os.length)) (· = r)) : callT tbl YID args os = some r:=by
 apply callT_yield
 rw [← h.eq]
 simp only [yieldE,yieldG,hl,ho,hk,hn,if_true,bnd]
 cases exec (callT tbl) lp.assign ⟨lp.ps.zip args ++ env,(enter [] os).objs⟩ with
 | none => rfl
 | some q =>
  obtain ⟨x,s1⟩:=q
  cases x <;> simp only [yK1]
  generalize gT s1.objs (0,j) = o1
  rcases o1 with _ | o1
  ·rfl
  ·cases o1 with
   | plain o =>
    cases o with
    | blk b =>
     cases b with
     | loop k1 st1 env1 =>
      cases st1 <;> simp only [yK2]
      simp only [bnd]
      cases exec (callT tbl) lp.body ⟨s1.env,pT s1.objs (0,j) (.plain (.blk (.loop k1 .busy env1)))⟩ with
      | none => rfl
      | some q2 =>
       obtain ⟨e,s2⟩:=q2
       simp only [yK3]
       generalize gT s2.objs (0,j) = o2
       rcases o2 with _ | o2
       ·rfl
       ·cases o2 with
        | plain o =>
         cases o with
         | blk b =>
          cases b with
          | loop k2 st2 env2 => cases st2 <;> simp only [yK4,retE_eq]
          | _ => rfl
         | _ => rfl
        | _ => rfl
     | _ => rfl
    | _ => rfl
   | _ => rfl
def rfK3 (env : Env) (objs : zgb7) (site : Nat) : Option TObj → Option (AEx × St)
 | some (.plain (.blk (.loop _ st _))) => bnd st.out fun x => some (x,⟨env,pT objs (site + 1,0) (.plain (.blk .dead))⟩)
 | _ => none
def rfK2 (env : Env) (objs : zgb7) (site : Nat) (p : AVal × List (RId × TObj)) : Option (AEx × St):=rfK3 env (pTs objs p.2) site (gT (pTs objs p.2) (site + 1,0))
noncomputable def rfK (K : Orc) (k site : Nat) (caps : List Nat) (env : Env) (objs : zgb7) : AVal → Option (AEx × St)
 | .fn f vs => if f = YID ∨ BIGF ≤ f then none else if (gT objs (site + 1,0)).isSome then none else
   bnd (callE K (site + 1) f ((.bref true ((site + 1,0),0,0),true) :: vs.map fun v => (v,true)) false
     (gT (pT objs (site + 1,0) (.plain (.blk (.loop k .ready (caps.map fun t => (t,gE env t)))))))) (rfK2 env (pT objs (site + 1,0) (.plain (.blk (.loop k .ready (caps.map fun t => (t,gE env t)))))) site)
 | _ => none
@[simp] theorem rfK_f (K : Orc) (k site : Nat) (caps : List Nat) (env : Env) (objs : zgb7) (f : FuncId) (vs : List AVal) : rfK K k site caps env objs (.fn f vs) = if f = YID ∨ BIGF ≤ f then none else if (gT objs (site + 1,0)).isSome then none else
   bnd (callE K (site + 1) f ((.bref true ((site + 1,0),0,0),true) :: vs.map fun v => (v,true)) false
     (gT (pT objs (site + 1,0) (.plain (.blk (.loop k .ready (caps.map fun t => (t,gE env t)))))))) (rfK2 env (pT objs (site + 1,0) (.plain (.blk (.loop k .ready (caps.map fun t => (t,gE env t)))))) site):=rfl
@[simp] theorem rfK2_s (env : Env) (objs : zgb7) (site : Nat) (v : AVal) (us : List (RId × TObj)) : rfK2 env objs site (v,us) = rfK3 env (pTs objs us) site (gT (pTs objs us) (site + 1,0)):=rfl
@[simp] theorem rfK3_s (env : Env) (objs : zgb7) (site k : Nat) (st : LSt) (e : Env) : rfK3 env objs site (some (.plain (.blk (.loop k st e)))) = bnd st.out fun x => some (x,⟨env,pT objs (site + 1,0) (.plain (.blk .dead))⟩):=rfl
@[simp] theorem out_r : LSt.out .ready = some .normal:=rfl
@[simp] theorem out_d (e : AEx) : LSt.out (.done e) = some e:=rfl
theorem exec_rfK (K : Orc) (x : AX) (k site : Nat) (caps : List Nat) (env : Env) (objs : zgb7) : exec K (.rf x k site caps) ⟨env,objs⟩ = rfK K k site caps env objs (evX (gE env) x):=by
 simp only [exec,rfE]
 generalize evX (gE env) x = v
 cases v with
 | fn f vs =>
  simp only [rfK]
  by_cases h : f = YID ∨ BIGF ≤ f
  ·rw [if_pos h,if_pos h]
  ·rw [if_neg h,if_neg h]
   cases gT objs (site + 1,0) with
   | some o => simp
   | none =>
    simp only [Option.isSome_none,Bool.false_eq_true,if_false,bnd]
    generalize callE K (site + 1) f _ false _ = q
    cases q with
    | none => rfl
    | some q =>
     obtain ⟨v,us⟩:=q
     simp only [rfK2]
     generalize gT (pTs _ us) (site + 1,0) = o
     cases o with
     | none => rfl
     | some o =>
      cases o with
      | plain o =>
       cases o with
       | blk b =>
        cases b with
        | loop k st e => cases st <;> rfl
        | _ => rfl
       | _ => rfl
      | _ => rfl
 | _ => rfl
attribute [simp] exec_rfK
@[simp] theorem splice_z {α : Type} (a : α) (l : List α) (v : α) : splice (a :: l) 0 [v] = v :: l:=rfl
@[simp] theorem splice_n {α : Type} (a : α) (l v : List α) (n : Nat) : splice (a :: l) (n + 1) v = a :: splice l n v:=by
 have e : n + 1 + v.length = (n + v.length) + 1:=by omega
 simp only [splice,e,List.take_succ_cons,List.drop_succ_cons,List.cons_append]
def scan {α β : Type} (f : Nat → α → Option β) : List α → Nat → Option β
 | [],_ => none
 | x :: r,i => match f i x with
  | some b => some b
  | none => scan f r (i + 1)
def oQ {β : Type} (E : AEx × St → Prop) (P : β → AEx × St → Prop) : Option β → AEx × St → Prop
 | none => E
 | some b => P b
@[simp] theorem oQ_n {β : Type} (E : AEx × St → Prop) (P : β → AEx × St → Prop) (q : AEx × St) : oQ E P none q = E q:=rfl
@[simp] theorem oQ_s {β : Type} (E : AEx × St → Prop) (P : β → AEx × St → Prop) (b : β) (q : AEx × St) : oQ E P (some b) q = P b q:=rfl
end Go.Am

set_option maxRecDepth 10000
set_option maxHeartbeats 4000000
namespace Go.Am.E
open Go.Proofs Go.Rc Go.Rg
def gO (L : List (Nat × Nat)) : List TObj:=if L = [] then [] else [.plain (.arr 2 (L.length - 1) false (L.map PD))]
theorem zwd7 : gO [] = []:=rfl
theorem zvb7 (p : Nat × Nat) (L : List (Nat × Nat)) : gO (p :: L) = [.plain (.arr 2 L.length false ((p :: L).map PD))]:=by simp [gO]
abbrev L57 (st : LSt) (j : Nat) : TObj:=.plain (.blk (.loop 57 st [(5,.ref ((0,j),0,0) 0)]))
abbrev Y57 (n : Nat) (L : List (Nat × Nat)) : List TObj:=L57 .ready 1 :: .plain (.box [.dat (Nn n),gV (0,2) L]) :: gO L
theorem y57 (n : Nat) (L : List (Nat × Nat)) (hl : L.length < 100000) (a b : Nat) : K YID [.dat (PD (a,b)),.bref true ((0,0),0,0)] (Y57 n L) = some (.dat (.bool true),Y57 n (L ++ [(a,b)])):=by
 have hr : (L.length + 1) * 17 ≤ 1099511627776:=by omega
 cases L with
 | nil =>
  refine yield_ev (k:=57) (j:=0) (lp:=lp57) rfl rfl rfl rfl ?_
  simp [zla7,zwd7,zda7,zvb7]
 | cons p L =>
  refine yield_ev (k:=57) (j:=0) (lp:=lp57) rfl rfl rfl rfl ?_
  simp at hr
  simp [zda7,zvb7,hr]
end Go.Am.E

set_option maxRecDepth 10000
set_option maxHeartbeats 4000000
namespace Go.Am.E
open Go.Proofs Go.Rc Go.Rg
abbrev GD (es : List Evt) (rf mo : List Dat) : Dat:=.agg [.sl (es.map Evt.dat),.sl rf,.sl mo]
abbrev GO (es : List Evt) (rf mo : List Dat) : TObj:=.plain (.box [.dat (.sl (es.map Evt.dat)),.dat (.sl rf),.dat (.sl mo)])
def poB (a b : Nat) (x y : Evt) : Bool:=(decide (x.ag = y.ag) && decide (a < b)) || (decide (x.kind = 16) && decide (x.obj = y.ag)) || (decide (y.kind = 17) && decide (y.obj = x.ag)) || (decide (x.kind = 16) && decide (y.kind = 17) && decide (x.obj = y.obj))
theorem zkc7 {es : List Evt} {a : Nat} {x : Evt} (h : es[a]? = some x) : (∀ h : a < es.length,es[a] = x) ∧ (a : Int) < es.length ∧ a < es.length:=by
 obtain ⟨h1,h2⟩:=List.getElem?_eq_some_iff.1 h
 exact ⟨fun _ => h2,by omega,h1⟩
attribute [local simp] Evt.cells
theorem run106 (es : List Evt) (rf mo : List Dat) (hl : es.length ≤ 64) (a b : Nat) (x y : Evt) (ha : es[a]? = some x) (hb : es[b]? = some y) :
  K 106 [.dat (Nn a),.dat (Nn b),.ref ((0,0),0,0) 0] [GO es rf mo] = some (.dat (.bool (poB a b x y)),[GO es rf mo]):=ce rfl (by
 obtain ⟨a2,a3,a4⟩:=zkc7 ha
 obtain ⟨b2,b3,b4⟩:=zkc7 hb
 obtain ⟨ag,idx,kind,obj,mux,ent,ord,rd,wr⟩:=x
 obtain ⟨ag',idx',kind',obj',mux',ent',ord',rd',wr'⟩:=y
 unfold poB
 by_cases h1 : ag = ag' ∧ a < b
 ·obtain ⟨h1,h2⟩:=h1
  subst h1
  simp [ha,hb,a2,a3,a4,b2,b3,b4,h2]
 ·have h1' : ¬ (ag = ag' ∧ (a : Int) < b):=fun h => h1 ⟨h.1,by omega⟩
  by_cases e1 : ag = ag'
  ·have e2 : ¬ (a < b):=fun h => h1 ⟨e1,h⟩
   subst e1
   by_cases h3 : kind = 16
   ·subst h3
    by_cases h4 : obj = ag
    ·simp [ha,hb,a2,a3,a4,b2,b3,b4,e2,h4]
    ·by_cases h5 : kind' = 17
     ·subst h5
      by_cases h6 : obj = obj'
      ·subst h6
       simp [ha,hb,a2,a3,a4,b2,b3,b4,e2,h4]
      ·simp [ha,hb,a2,a3,a4,b2,b3,b4,e2,h4,h6]
     ·simp [ha,hb,a2,a3,a4,b2,b3,b4,e2,h4,h5]
   ·by_cases h5 : kind' = 17
    ·subst h5
     simp [ha,hb,a2,a3,a4,b2,b3,b4,e2,h3]
    ·simp [ha,hb,a2,a3,a4,b2,b3,b4,e2,h3,h5]
  ·by_cases h3 : kind = 16
   ·subst h3
    by_cases h4 : obj = ag'
    ·simp [ha,hb,a2,a3,a4,b2,b3,b4,e1,h4]
    ·by_cases h5 : kind' = 17
     ·subst h5
      by_cases h6 : obj = obj'
      ·subst h6
       simp [ha,hb,a2,a3,a4,b2,b3,b4,e1,h4]
      ·simp [ha,hb,a2,a3,a4,b2,b3,b4,e1,h4,h6]
     ·simp [ha,hb,a2,a3,a4,b2,b3,b4,e1,h4,h5]
   ·by_cases h5 : kind' = 17
    ·subst h5
     simp [ha,hb,a2,a3,a4,b2,b3,b4,e1,h3]
    ·simp [ha,hb,a2,a3,a4,b2,b3,b4,e1,h3,h5])
theorem run182 (es : List Evt) (rf mo : List Dat) (hl : es.length ≤ 64) (a b : Nat) (x y : Evt) (ha : es[a]? = some x) (hb : es[b]? = some y) :
  K 182 [.dat (GD es rf mo),.dat (Nn a),.dat (Nn b)] [] = some (.dat (.bool (poB a b x y)),[]):=ce rfl (by
 obtain ⟨a2,a3,a4⟩:=zkc7 ha
 obtain ⟨b2,b3,b4⟩:=zkc7 hb
 obtain ⟨ag,idx,kind,obj,mux,ent,ord,rd,wr⟩:=x
 obtain ⟨ag',idx',kind',obj',mux',ent',ord',rd',wr'⟩:=y
 unfold poB
 by_cases h1 : ag = ag' ∧ a < b
 ·obtain ⟨h1,h2⟩:=h1
  subst h1
  simp [ha,hb,a2,a3,a4,b2,b3,b4,h2]
 ·by_cases e1 : ag = ag'
  ·have e2 : ¬ (a < b):=fun h => h1 ⟨e1,h⟩
   subst e1
   by_cases h3 : kind = 16
   ·subst h3
    by_cases h4 : obj = ag
    ·subst h4
     simp [ha,hb,a2,a3,a4,b2,b3,b4,e2]
    ·by_cases h5 : kind' = 17
     ·subst h5
      by_cases h6 : obj' = ag
      ·subst h6
       simp [ha,hb,a2,a3,a4,b2,b3,b4,e2,h4]
      ·simp [ha,hb,a2,a3,a4,b2,b3,b4,e2,h4,h6]
     ·simp [ha,hb,a2,a3,a4,b2,b3,b4,e2,h4,h5]
   ·by_cases h5 : kind' = 17
    ·subst h5
     by_cases h6 : obj' = ag
     ·subst h6
      simp [ha,hb,a2,a3,a4,b2,b3,b4,e2,h3]
     ·simp [ha,hb,a2,a3,a4,b2,b3,b4,e2,h3,h6]
    ·simp [ha,hb,a2,a3,a4,b2,b3,b4,e2,h3,h5]
  ·by_cases h3 : kind = 16
   ·subst h3
    by_cases h4 : obj = ag'
    ·subst h4
     simp [ha,hb,a2,a3,a4,b2,b3,b4,e1]
    ·by_cases h5 : kind' = 17
     ·subst h5
      by_cases h6 : obj' = ag
      ·subst h6
       simp [ha,hb,a2,a3,a4,b2,b3,b4,e1,h4]
      ·simp [ha,hb,a2,a3,a4,b2,b3,b4,e1,h4,h6]
     ·simp [ha,hb,a2,a3,a4,b2,b3,b4,e1,h4,h5]
   ·by_cases h5 : kind' = 17
    ·subst h5
     by_cases h6 : obj' = ag
     ·subst h6
      simp [ha,hb,a2,a3,a4,b2,b3,b4,e1,h3]
     ·simp [ha,hb,a2,a3,a4,b2,b3,b4,e1,h3,h6]
    ·simp [ha,hb,a2,a3,a4,b2,b3,b4,e1,h3,h5])
end Go.Am.E

set_option maxRecDepth 10000
set_option maxHeartbeats 4000000
namespace Go.Am.E
open Go.Proofs Go.Rc Go.Rg
def poP (es : List Evt) (a b : Nat) : Bool:=match es[a]?,es[b]? with
 | some x,some y => poB a b x y
 | _,_ => false
theorem poP_some {es : List Evt} {a b : Nat} {x y : Evt} (ha : es[a]? = some x) (hb : es[b]? = some y) : poP es a b = poB a b x y:=by simp [poP,ha,hb]
abbrev F106 (j : Nat) : TObj:=.plain (.box [.fn 106 [.ref ((0,j),0,0) 0]])
abbrev O151 (es : List Evt) (rf mo : List Dat) (L : List (Nat × Nat)) : List TObj:=L57 .ready 3 :: GO es rf mo :: F106 4 :: .plain (.box [.dat (Nn es.length),gV (0,5) L]) :: GO es rf mo :: gO L
abbrev S151 (es : List Evt) (rf mo : List Dat) (L : List (Nat × Nat)) : zgb7:=((0,0),L57 .ready 3) :: ((0,1),GO es rf mo) :: ((0,2),F106 4) :: ((0,3),.plain (.box [.dat (Nn es.length),gV (28,0) L])) :: ((0,4),GO es rf mo) :: gS (28,0) L
abbrev E151 (r : Env) : Env:=(0,.bref true ((0,0),0,0)) :: (1,.ref ((0,1),0,0) 0) :: (2,.ref ((0,2),0,0) 0) :: r
theorem in151 (es : List Evt) (rf mo : List Dat) (hn : es.length ≤ 64) (a : Nat) (ha : a < es.length) (st : St)
  (hs : hd [0,1,2,4,8,9,14,15] [] st = some ⟨E151 [(4,.dat (Nn a)),(8,.dat (Nn es.length)),(9,.dat (Nn a)),(14,.dat (Nn es.length)),(15,.dat (Nn 0))],S151 es rf mo (prA es.length (poP es) a)⟩) :
  Ev (zva7 (exec K l151_0) st) fun q => q.1 = .exit 2 ∧ hd [0,1,2,8,9] [] q.2 = some ⟨E151 [(8,.dat (Nn es.length)),(9,.dat (Nn a))],S151 es rf mo (prA es.length (poP es) (a + 1))⟩:=by
 refine znd7 (live:=[0,1,2,4,8,9,14,15]) (drop:=[]) es.length (fun b => ⟨E151 [(4,.dat (Nn a)),(8,.dat (Nn es.length)),(9,.dat (Nn a)),(14,.dat (Nn es.length)),(15,.dat (Nn b))],S151 es rf mo (prB es.length (poP es) a b)⟩) (fun _ q => q.1 = .exit 2 ∧ hd [0,1,2,8,9] [] q.2 = some ⟨E151 [(8,.dat (Nn es.length)),(9,.dat (Nn a))],S151 es rf mo (prA es.length (poP es) (a + 1))⟩)
  (fun b st hb hs => ?_) (fun st hs => ?_) es.length 0 st (by omega) (by rw [prB_zero]; exact hs)
 ·have hlt : (b : Int) < es.length:=by omega
  have ix : Ix b:=by unfold Ix; omega
  have hle:=prB_le es.length (poP es) a b ha (by omega)
  have hnn : es.length * es.length ≤ 64 * 64:=Nat.mul_le_mul hn hn
  have hsu:=zfe7 es.length (poP es) a b
  have hc:=run106 es rf mo hn a b _ _ (List.getElem?_eq_getElem ha) (List.getElem?_eq_getElem hb)
  rw [← poP_some (List.getElem?_eq_getElem ha) (List.getElem?_eq_getElem hb)] at hc
  have hy:=y57 es.length (prB es.length (poP es) a b) (by omega) a b
  generalize prB es.length (poP es) a b = L at *
  cases hp : poP es a b with
  | false =>
   rw [hp] at hsu hc
   simp only [Bool.false_eq_true,if_false] at hsu
   cases L with
   | nil => simp [hsu,hs,hlt,ix,zla7,zta7,hc,YID]
   | cons p L => simp [hsu,hs,hlt,ix,zda7,zfa7,hc,YID]
  | true =>
   rw [hp] at hsu hc
   simp only [if_true] at hsu
   cases L with
   | nil =>
    simp [YID,Y57,L57,PD,zla7,zwd7,zda7,zvb7] at hy
    simp [hsu,hs,hlt,ix,zla7,zta7,zda7,zfa7,hc,YID,hy]
   | cons p L =>
    simp [YID,Y57,L57,PD,zda7,zvb7] at hy
    simp [hsu,hs,hlt,ix,zda7,zfa7,hc,YID,hy]
 ·rw [prB_n] at hs
  generalize prA es.length (poP es) (a + 1) = L at *
  cases L with
  | nil => simp [hs,zla7,zta7]
  | cons p L => simp [hs,zda7,zfa7]
theorem run151 (es : List Evt) (rf mo : List Dat) (hn : es.length ≤ 64) : K 151 [.bref true ((0,0),0,0),.ref ((0,1),0,0) 0,.ref ((0,2),0,0) 0] (O151 es rf mo []) = some (.tup [],O151 es rf mo (prs es.length (poP es))):=ce rfl (by
 simp [zla7,zwd7]
 simp only [zca7]
 refine (znd7 (live:=[0,1,2,8,9]) (drop:=[]) es.length (fun a => ⟨E151 [(8,.dat (Nn es.length)),(9,.dat (Nn a))],S151 es rf mo (prA es.length (poP es) a)⟩) (fun _ q => q.1 = .exit 0 ∧ endK [] false 5 (.normal,q.2) = some (.tup [],O151 es rf mo (prs es.length (poP es))))
  (fun a st ha hs => ?_) (fun st hs => ?_) es.length 0 _ (by omega) (by simp [zjf7,zla7,zta7])).mono ?_
 ·have hlt : (a : Int) < es.length:=by omega
  have ix : Ix a:=by unfold Ix; omega
  have hin:=in151 es rf mo hn a ha
  generalize prA es.length (poP es) a = L at *
  generalize hL' : prA es.length (poP es) (a + 1) = L' at *
  cases L with
  | nil =>
   simp [hs,hlt,ix,zla7,zta7]
   simp only [zca7]
   refine (hin _ (by simp [zla7,zta7])).mono ?_
   rintro ⟨_,st⟩ ⟨rfl,hs⟩
   dsimp only at hs
   cases L' with
   | nil => simp [hs,ix,zla7,zta7,hL']
   | cons p L' => simp [hs,ix,zda7,zfa7,hL']
  | cons p L =>
   simp [hs,hlt,ix,zda7,zfa7]
   simp only [zca7]
   refine (hin _ (by simp [zda7,zfa7])).mono ?_
   rintro ⟨_,st⟩ ⟨rfl,hs⟩
   dsimp only at hs
   cases L' with
   | nil => simp [hs,ix,zla7,zta7,hL']
   | cons p L' => simp [hs,ix,zda7,zfa7,hL']
 ·rw [prA_n] at hs
  generalize prs es.length (poP es) = L at *
  cases L with
  | nil => simp [hs,zla7,zta7,zwd7]
  | cons p L => simp [hs,zda7,zfa7,zvb7]
 ·rintro ⟨_,st⟩ ⟨rfl,hs⟩
  dsimp only at hs
  simp [hs])
theorem run105 (es : List Evt) (rf mo : List Dat) : K 105 [.dat (GD es rf mo),.fn 106 [.ref ((0,0),0,0) 0]] [GO es rf mo] = some (.fn 151 [.ref ((0,1),0,0) 0,.ref ((0,2),0,0) 0],[GO es rf mo,GO es rf mo,F106 0]):=ce rfl (by
 simp)
theorem prs_self {n : Nat} {P : Nat → Nat → Bool} : prs n (fun a b => decide ((a,b) ∈ prs n P)) = prs n P:=by
 apply prs_congr
 intro a b ha hb
 have:=prs_mem (n:=n) (P:=P) (p:=(a,b))
 rw [Bool.eq_iff_iff,decide_eq_true_eq,this]
 exact ⟨fun h => h.2.2,fun h => ⟨ha,hb,h⟩⟩
theorem prs_in {n : Nat} {P : Nat → Nat → Bool} (hn : n ≤ 64) : inN n (prs n P):=by
 have hnn : n * n ≤ 64 * 64:=Nat.mul_le_mul hn hn
 have:=prs_len n P
 exact ⟨hn,by omega,fun p hp => ⟨(prs_mem.1 hp).1,(prs_mem.1 hp).2.1⟩⟩
theorem run57a (es : List Evt) (rf mo : List Dat) (hn : es.length ≤ 64) : K 57 [.dat (Nn es.length),.fn 151 [.ref ((0,0),0,0) 0,.ref ((0,1),0,0) 0]] [GO es rf mo,F106 2,GO es rf mo] = some (.dat (Rel es.length (prs es.length (poP es))),[GO es rf mo,F106 2,GO es rf mo]):=ce rfl (by
 have h1:=run151 es rf mo hn
 have h2:=run107 (prs_in (P:=poP es) hn)
 rw [prs_self] at h2
 generalize prs es.length (poP es) = L at *
 cases L with
 | nil =>
  simp [O151,L57,zla7,zwd7] at h1
  simp only [Rel,List.map_cons,List.map_nil] at h2
  simp [h1,h2,YID,BIGF]
 | cons p L =>
  simp [O151,L57,zla7,zwd7,zda7,zvb7] at h1
  simp only [Rel,List.map_cons,List.map_nil] at h2
  simp [h1,h2,YID,BIGF])
end Go.Am.E

set_option maxRecDepth 10000
set_option maxHeartbeats 4000000
namespace Go.Am.E
open Go.Proofs Go.Rc Go.Rg
theorem ev_from {K : Orc} {c : AC} {live drop : List Nat} (m n : Nat) (I : Nat → St) (Q : Nat → AEx × St → Prop)
  (h : ∀ i s,m ≤ i → i < n → hd live drop s = some (I i) → Ev (exec K c s) (rnd live drop I Q i))
  (he : ∀ s,hd live drop s = some (I n) → Ev (exec K c s) (lst (Q n))) :
  ∀ (k i : Nat) (s : St),m ≤ i → i + k = n → hd live drop s = some (I i) → Ev (zva7 (exec K c) s) (Q i)
 | 0,i,s,hm,hi,hs => by
  have e : i = n:=by omega
  subst e
  apply zle7
  refine (he s hs).mono ?_
  rintro ⟨x,s'⟩ hq
  cases x
  ·exact hq.elim
  ·exact hq
  ·exact hq
 | k + 1,i,s,hm,hi,hs => by
  apply zle7
  refine (h i s hm (by omega) hs).mono ?_
  rintro ⟨x,s'⟩ hq
  cases x
  ·exact (ev_from m n I Q h he k (i + 1) s' (by omega) (by omega) hq.1).mono hq.2
  ·exact hq
  ·exact hq
mutual
theorem eqv_refl : ∀ d : Dat,Dat.eqv d d = true
 | .int k n => by simp [Dat.eqv]
 | .bool b => by simp [Dat.eqv]
 | .str s => by simp [Dat.eqv]
 | .sl l => by rw [Dat.eqv]; exact zpc7 l
 | .agg l => by rw [Dat.eqv]; exact zpc7 l
theorem zpc7 : ∀ l : List Dat,Dat.eqvL l l = true
 | [] => rfl
 | d :: l => by rw [Dat.eqvL,eqv_refl d,zpc7 l]; rfl
end
theorem run56 (es : List Evt) (rf mo : List Dat) (hn : es.length ≤ 64) : K 56 [.dat (GD es rf mo)] [] = some (.dat (Rel es.length (prs es.length (poP es))),[]):=ce rfl (by
 have h1:=run105 es rf mo
 have h2:=run57a es rf mo hn
 simp [h1,h2,YID,pairK,apartC,chgOf,slim,sameAt,TObj.same,Obj.same,sameAll,AVal.same,Dat.eqv,zpc7,meets,updT])
def soP (es : List Evt) (a b : Nat) : Bool:=match es[a]?,es[b]? with
 | some x,some y => decide (a < b) && sameE' x y
 | _,_ => false
theorem soP_some {es : List Evt} {a b : Nat} {x y : Evt} (ha : es[a]? = some x) (hb : es[b]? = some y) (h : a < b) : soP es a b = sameE' x y:=by simp [soP,ha,hb,h]
theorem prB_up {es : List Evt} {a : Nat} : ∀ b,b ≤ a + 1 → prB es.length (soP es) a b = prA es.length (soP es) a:=by
 intro b
 induction b with
 | zero => intro _; exact prB_zero _ _ _
 | succ b ih =>
  intro h
  rw [zfe7,if_neg,ih (by omega)]
  simp only [soP,Bool.not_eq_true]
  split
  ·have : ¬ a < b:=by omega
   simp [this]
  ·rfl
abbrev F59 : TObj:=.plain (.box [.fn 59 []])
abbrev O108 (es : List Evt) (rf mo : List Dat) (L : List (Nat × Nat)) : List TObj:=L57 .ready 3 :: GO es rf mo :: F59 :: .plain (.box [.dat (Nn es.length),gV (0,4) L]) :: gO L
abbrev S108 (es : List Evt) (rf mo : List Dat) (L : List (Nat × Nat)) : zgb7:=((0,0),L57 .ready 3) :: ((0,1),GO es rf mo) :: ((0,2),F59) :: ((0,3),.plain (.box [.dat (Nn es.length),gV (1,2) L])) :: gS (1,2) L
abbrev E108 (r : Env) : Env:=(0,.bref true ((0,0),0,0)) :: (1,.ref ((0,1),0,0) 0) :: (2,.ref ((0,2),0,0) 0) :: r
attribute [local simp] Evt.cells
theorem run58 (es : List Evt) (rf mo : List Dat) : K 58 [.dat (GD es rf mo),.fn 59 []] [] = some (.fn 108 [.ref ((0,0),0,0) 0,.ref ((0,1),0,0) 0],[GO es rf mo,F59]):=ce rfl (by
 simp)
abbrev XB (x : Evt) : TObj:=.plain (.box [.dat (Nn x.ag),.dat (Nn x.idx),.dat (Nn x.kind),.dat (Nn x.obj),.dat (Nn x.mux),.dat (Nn x.ent),.dat (Nn x.ord),.dat (Nn x.rd),.dat (Nn x.wr)])
def T108 (es : List Evt) (rf mo : List Dat) (x : Evt) (L : List (Nat × Nat)) : Bool → zgb7
 | true => ((0,0),L57 .ready 3) :: ((0,1),GO es rf mo) :: ((0,2),F59) :: ((0,3),.plain (.box [.dat (Nn es.length),gV (1,2) L])) :: (gS (1,2) L ++ [((6,0),XB x)])
 | false => ((0,0),L57 .ready 3) :: ((0,1),GO es rf mo) :: ((0,2),F59) :: ((0,3),.plain (.box [.dat (Nn es.length),gV (38,0) L])) :: ((6,0),XB x) :: gS (38,0) L
theorem in108 (es : List Evt) (rf mo : List Dat) (hn : es.length ≤ 64) (a : Nat) (ha : a < es.length) (x : Evt) (hx : es[a]? = some x) (c : Bool) (hc : c = true → prA es.length (soP es) a ≠ []) (st : St)
  (hs : hd [0,1,2,4,5,6,8,9,10] [] st = some ⟨E108 [(4,.dat (Nn a)),(5,.ref ((6,0),0,0) 0),(6,.dat (Nn (a + 1 : Nat))),(8,.dat (.sl (es.map Evt.dat))),(9,.dat (Nn es.length)),(10,.dat (Nn a))],T108 es rf mo x (prA es.length (soP es) a) c⟩) :
  Ev (zva7 (exec K l108_0) st) fun q => q.1 = .exit 2 ∧ hd [0,1,2,8,9,10] [] q.2 = some ⟨E108 [(8,.dat (.sl (es.map Evt.dat))),(9,.dat (Nn es.length)),(10,.dat (Nn a))],T108 es rf mo x (prA es.length (soP es) (a + 1)) c⟩:=by
 have hcB : ∀ b,c = true → prB es.length (soP es) a b ≠ []:=by
  intro b h
  have:=hc h
  unfold prB
  cases hh : prA es.length (soP es) a with
  | nil => exact absurd hh this
  | cons p l => simp
 have hcA:=hcB es.length
 rw [prB_n] at hcA
 refine ev_from (live:=[0,1,2,4,5,6,8,9,10]) (drop:=[]) (a + 1) es.length (fun b => ⟨E108 [(4,.dat (Nn a)),(5,.ref ((6,0),0,0) 0),(6,.dat (Nn b)),(8,.dat (.sl (es.map Evt.dat))),(9,.dat (Nn es.length)),(10,.dat (Nn a))],T108 es rf mo x (prB es.length (soP es) a b) c⟩) (fun _ q => q.1 = .exit 2 ∧ hd [0,1,2,8,9,10] [] q.2 = some ⟨E108 [(8,.dat (.sl (es.map Evt.dat))),(9,.dat (Nn es.length)),(10,.dat (Nn a))],T108 es rf mo x (prA es.length (soP es) (a + 1)) c⟩)
  (fun b st hm hb hs => ?_) (fun st hs => ?_) (es.length - (a + 1)) (a + 1) st (Nat.le_refl _) (by omega) (by rw [prB_up _ (Nat.le_refl _)]; exact hs)
 ·have hlt : (b : Int) < es.length:=by omega
  have ix : Ix b:=by unfold Ix; omega
  have hle:=prB_le es.length (soP es) a b ha (by omega)
  have hnn : es.length * es.length ≤ 64 * 64:=Nat.mul_le_mul hn hn
  have hsu:=zfe7 es.length (soP es) a b
  have hyb:=List.getElem?_eq_getElem hb
  obtain ⟨y2,y3,y4⟩:=zkc7 hyb
  have hcB:=hcB b
  generalize es[b] = y at hyb y2
  rw [soP_some hx hyb (by omega)] at hsu
  have h59:=run59 x y
  have hy:=y57 es.length (prB es.length (soP es) a b) (by omega) a b
  generalize prB es.length (soP es) a b = L at *
  simp only [Evt.dat,Evt.cells] at h59
  generalize sameE' x y = r at *
  cases r with
  | false =>
   simp only [Bool.false_eq_true,if_false] at hsu
   cases L with
   | nil =>
    cases c with
    | true => exact absurd rfl (hcB rfl)
    | false => simp [hsu,hs,hlt,ix,T108,zla7,zta7,h59,YID,hyb,y2,y3,y4]
   | cons p L =>
    cases c with
    | true => simp [hsu,hs,hlt,ix,T108,zda7,zfa7,h59,YID,hyb,y2,y3,y4]
    | false => simp [hsu,hs,hlt,ix,T108,zda7,zfa7,h59,YID,hyb,y2,y3,y4]
  | true =>
   simp only [if_true] at hsu
   cases L with
   | nil =>
    simp [YID,Y57,L57,PD,zla7,zwd7,zda7,zvb7] at hy
    cases c with
    | true => exact absurd rfl (hcB rfl)
    | false => simp [hsu,hs,hlt,ix,T108,zla7,zta7,zda7,zfa7,h59,YID,hyb,y2,y3,y4,hy]
   | cons p L =>
    simp [YID,Y57,L57,PD,zda7,zvb7] at hy
    cases c with
    | true => simp [hsu,hs,hlt,ix,T108,zda7,zfa7,h59,YID,hyb,y2,y3,y4,hy]
    | false => simp [hsu,hs,hlt,ix,T108,zda7,zfa7,h59,YID,hyb,y2,y3,y4,hy]
 ·rw [prB_n] at hs
  generalize prA es.length (soP es) (a + 1) = L at *
  cases c with
  | false =>
   cases L with
   | nil => simp [hs,T108,zla7,zta7]
   | cons p L => simp [hs,T108,zda7,zfa7]
  | true =>
   cases L with
   | nil => exact absurd rfl (hcA rfl)
   | cons p L => simp [hs,T108,zda7,zfa7]
end Go.Am.E

set_option maxRecDepth 10000
set_option maxHeartbeats 4000000
namespace Go.Am.E
open Go.Proofs Go.Rc Go.Rg
attribute [local simp] Evt.cells
theorem run108 (es : List Evt) (rf mo : List Dat) (hn : es.length ≤ 64) : K 108 [.bref true ((0,0),0,0),.ref ((0,1),0,0) 0,.ref ((0,2),0,0) 0] (O108 es rf mo []) = some (.tup [],O108 es rf mo (prs es.length (soP es))):=ce rfl (by
 simp [zla7,zwd7]
 simp only [zca7]
 refine (znd7 (live:=[0,1,2,8,9,10]) (drop:=[0,1,2,8]) es.length (fun a => ⟨E108 [(8,.dat (.sl (es.map Evt.dat))),(9,.dat (Nn es.length)),(10,.dat (Nn a))],S108 es rf mo (prA es.length (soP es) a)⟩) (fun _ q => q.1 = .exit 0 ∧ endK [] false 4 (.normal,q.2) = some (.tup [],O108 es rf mo (prs es.length (soP es))))
  (fun a st ha hs => ?_) (fun st hs => ?_) es.length 0 _ (by omega) (by simp [zjf7,zla7,zta7])).mono ?_
 ·have hlt : (a : Int) < es.length:=by omega
  have ix : Ix a:=by unfold Ix; omega
  have hxa:=List.getElem?_eq_getElem ha
  obtain ⟨x2,x3,x4⟩:=zkc7 hxa
  generalize es[a] = x at hxa x2
  have hin:=in108 es rf mo hn a ha x hxa
  have hne : prA es.length (soP es) a ≠ [] → prA es.length (soP es) (a + 1) ≠ []:=by
   intro h
   rw [← prB_n,prB]
   simp [h]
  generalize prA es.length (soP es) a = L at *
  generalize hL' : prA es.length (soP es) (a + 1) = L' at *
  cases L with
  | nil =>
   have hin:=hin false (by simp)
   simp [hs,hlt,ix,zla7,zta7,hxa,x2,x3,x4]
   simp only [zca7]
   refine (hin _ (by simp [T108,zla7,zta7])).mono ?_
   rintro ⟨_,st⟩ ⟨rfl,hs⟩
   dsimp only at hs
   cases L' with
   | nil => simp [hs,ix,T108,zla7,zta7,hL']
   | cons p L' => simp [hs,ix,T108,zda7,zfa7,hL']
  | cons p L =>
   have hin:=hin true (by simp)
   simp [hs,hlt,ix,zda7,zfa7,hxa,x2,x3,x4]
   simp only [zca7]
   refine (hin _ (by simp [T108,zda7,zfa7])).mono ?_
   rintro ⟨_,st⟩ ⟨rfl,hs⟩
   dsimp only at hs
   cases L' with
   | nil => exact absurd rfl (hne (by simp))
   | cons p L' => simp [hs,ix,T108,zda7,zfa7,hL']
 ·rw [prA_n] at hs
  generalize prs es.length (soP es) = L at *
  cases L with
  | nil => simp [hs,zla7,zta7,zwd7]
  | cons p L => simp [hs,zda7,zfa7,zvb7]
 ·rintro ⟨_,st⟩ ⟨rfl,hs⟩
  dsimp only at hs
  simp [hs])
theorem run57b (es : List Evt) (rf mo : List Dat) (hn : es.length ≤ 64) : K 57 [.dat (Nn es.length),.fn 108 [.ref ((0,0),0,0) 0,.ref ((0,1),0,0) 0]] [GO es rf mo,F59] = some (.dat (Rel es.length (prs es.length (soP es))),[GO es rf mo,F59]):=ce rfl (by
 have h1:=run108 es rf mo hn
 have h2:=run107 (prs_in (P:=soP es) hn)
 rw [prs_self] at h2
 generalize prs es.length (soP es) = L at *
 cases L with
 | nil =>
  simp [O108,L57,zla7,zwd7] at h1
  simp only [Rel,List.map_cons,List.map_nil] at h2
  simp [h1,h2,YID,BIGF]
 | cons p L =>
  simp [O108,L57,zla7,zwd7,zda7,zvb7] at h1
  simp only [Rel,List.map_cons,List.map_nil] at h2
  simp [h1,h2,YID,BIGF])
def gW (id : RId) (v : Nat) (L : List (Nat × Nat)) : AVal:=if L = [] then .nils else .rsl (id,0,0) v 2 0 L.length
def gT' (id : RId) (v : Nat) (L : List (Nat × Nat)) : zgb7:=if L = [] then [] else [(id,.plain (.arr 2 v false (L.map PD)))]
theorem gW_nil (id : RId) (v : Nat) : gW id v [] = .nils:=rfl
theorem gT'_nil (id : RId) (v : Nat) : gT' id v [] = []:=rfl
theorem gW_cons (id : RId) (v : Nat) (p : Nat × Nat) (L : List (Nat × Nat)) : gW id v (p :: L) = .rsl (id,0,0) v 2 0 (L.length + 1):=by simp [gW]
theorem gT'_cons (id : RId) (v : Nat) (p : Nat × Nat) (L : List (Nat × Nat)) : gT' id v (p :: L) = [(id,.plain (.arr 2 v false ((p :: L).map PD)))]:=by simp [gT']
def gStep (q : Nat × List (Nat × Nat)) (r : List (Nat × Nat)) : Nat × List (Nat × Nat):=if r = [] then q else if q.2 = [] then (0,r) else (q.1 + 1,q.2 ++ r)
def gAll (rs : List (List (Nat × Nat))) : Nat × List (Nat × Nat):=rs.foldl gStep (0,[])
theorem gAll_snd (rs : List (List (Nat × Nat))) : (gAll rs).2 = rs.flatten:=by
 have : ∀ (rs : List (List (Nat × Nat))) (q : Nat × List (Nat × Nat)),(rs.foldl gStep q).2 = q.2 ++ rs.flatten:=by
  intro rs
  induction rs with
  | nil => intro q; simp
  | cons r rs ih =>
   intro q
   rw [List.foldl_cons,ih,gStep]
   split
   ·rename_i h; simp [h]
   ·split
    ·rename_i h; simp [h]
    ·simp
 rw [gAll,this,List.nil_append]
theorem run55 (n : Nat) (rs : List (List (Nat × Nat))) (hn : n ≤ 64) (hr : ∀ r ∈ rs,inN n r) (hfl : rs.flatten.length < 100000) (hk : rs.length < 100) :
  K 55 [.dat (Nn n),.dat (.sl (rs.map fun r => Rel n r))] [] = some (.dat (Rel n (clo n rs.flatten)),[]):=ce rfl (by
 have hin : inN n rs.flatten:=by
  refine ⟨hn,by omega,fun p hp => ?_⟩
  obtain ⟨r,h1,h2⟩:=List.mem_flatten.1 hp
  exact (hr r h1).2.2 p h2
 have h1:=run104 hin
 have hall:=gAll_snd rs
 simp
 simp only [zca7]
 refine (zwc7 (live:=[4,5,10,11,12]) (drop:=[4,5,10]) rs (by omega) (fun k => ⟨[(4,.ref ((5,0),0,0) 0),(5,.ref ((6,0),0,0) 0),(10,.dat (.sl (rs.map fun r => Rel n r))),(11,.dat (Nn rs.length)),(12,.dat (Nn k))],((5,0),.plain (.box [.dat (.int .i64 0),.nils])) :: ((6,0),.plain (.box [.dat (Nn n),gW (6,1) (gAll (rs.take k)).1 (gAll (rs.take k)).2])) :: gT' (6,1) (gAll (rs.take k)).1 (gAll (rs.take k)).2⟩)
  (fun _ q => q.1 = .exit 0 ∧ hd [4,5] [] q.2 = some ⟨[(4,.ref ((5,0),0,0) 0),(5,.ref ((6,0),0,0) 0)],((5,0),.plain (.box [.dat (.int .i64 0),.nils])) :: ((6,0),.plain (.box [.dat (Nn n),gW (6,1) (gAll rs).1 (gAll rs).2])) :: gT' (6,1) (gAll rs).1 (gAll rs).2⟩) (fun i r s g1 g2 g3 ix hs => ?_) (fun s hs => ?_) _ (by simp [gAll,gW_nil,gT'_nil])).mono ?_
 ·have ht : gAll (rs.take (i + 1)) = gStep (gAll (rs.take i)) r:=by rw [List.take_add_one,g1]; simp [gAll]
  have hle : ((gAll (rs.take i)).2 ++ r).length ≤ rs.flatten.length:=by
   have e : ((gAll (rs.take i)).2 ++ r) = (rs.take (i + 1)).flatten:=by
    rw [gAll_snd,List.take_add_one,g1]; simp
   rw [e]
   conv => rhs; rw [← List.take_append_drop (i + 1) rs]
   rw [List.flatten_append,List.length_append]
   omega
  generalize gAll (rs.take i) = Q at *
  obtain ⟨v,L⟩:=Q
  simp only [gStep] at ht
  dsimp only at hle hs
  cases L with
  | nil =>
   cases r with
   | nil =>
    simp at ht
    simp [hs,g1,g2,g3,ix,ht,gW_nil,gT'_nil]
   | cons p r =>
    simp at ht
    simp only [List.nil_append,List.length_cons] at hle
    have hr : (r.length + 1) * 17 ≤ 1099511627776:=by omega
    simp [hs,g1,g2,g3,ix,ht,gW_nil,gT'_nil,gW_cons,gT'_cons,hr]
  | cons p L =>
   cases r with
   | nil =>
    simp at ht
    have hr : (L.length + 1) * 17 ≤ 1099511627776:=by simp only [List.append_nil,List.length_cons,List.length_append] at hle; omega
    simp [hs,g1,g2,g3,ix,ht,gW_cons,gT'_cons,hr]
   | cons q r =>
    simp at ht
    have hr : (L.length + 1 + (r.length + 1)) * 17 ≤ 1099511627776:=by simp only [List.append_nil,List.length_cons,List.length_append] at hle; omega
    simp [hs,g1,g2,g3,ix,ht,gW_cons,gT'_cons,hr]
    omega
 ·rw [List.take_length] at hs
  generalize gAll rs = Q at *
  obtain ⟨v,L⟩:=Q
  dsimp only at hs
  cases L with
  | nil => simp [hs,gW_nil,gT'_nil]
  | cons p L => simp [hs,gW_cons,gT'_cons]
 ·rintro ⟨_,s⟩ ⟨rfl,hs⟩
  dsimp only at hs
  rw [← hall] at h1 ⊢
  generalize gAll rs = Q at *
  obtain ⟨v,L⟩:=Q
  dsimp only at hs h1 ⊢
  cases L with
  | nil =>
   simp only [Rel,List.map_cons,List.map_nil] at h1
   simp [hs,gW_nil,gT'_nil,h1]
  | cons p L =>
   simp only [Rel,List.map_cons,List.map_nil] at h1
   simp [hs,gW_cons,gT'_cons,h1])
end Go.Am.E

set_option maxRecDepth 10000
set_option maxHeartbeats 4000000
namespace Go.Am.E
open Go.Proofs Go.Rc Go.Rg
def MI (s : List Nat) : List (Dat × AVal):=s.map fun w : Nat => (Nn (w : Int),.dat (.bool true))
def ixI (w : Nat) : List Nat → Option Nat
 | [] => none
 | q :: r => if q = w then some 0 else (ixI w r).map (· + 1)
theorem find_I (w : Nat) : ∀ s : List Nat,findE false [.int .i64] (.int .i64 w) (MI s) = some (ixI w s)
 | [] => rfl
 | c :: r => by
  have ih:=find_I w r
  simp only [MI,List.map_cons,findE,ixI] at ih ⊢
  by_cases h1 : c = w
  ·subst h1; simp [zea7,zxa7]
  ·have h1' : ¬ (w : Int) = c:=by omega
   have h1'' : ¬ w = c:=by omega
   simp [zea7,zxa7,h1,h1',h1'']
   rw [ih]
   cases ixI w r <;> rfl
theorem ixI_none {p : Nat} : ∀ {s : List Nat},ixI p s = none ↔ p ∉ s
 | [] => by simp [ixI]
 | q :: r => by
  simp only [ixI]
  split
  ·rename_i h; subst h; simp
  ·rename_i h
   have : ¬ p = q:=fun e => h e.symm
   simp [ixI_none (p:=p) (s:=r),this]
theorem ixI_get {p : Nat} : ∀ {s : List Nat} {i : Nat},ixI p s = some i → s[i]? = some p
 | [],i,h => by simp [ixI] at h
 | q :: r,i,h => by
  simp only [ixI] at h
  split at h
  ·rename_i e; subst e; cases h; rfl
  ·obtain ⟨j,hj,rfl⟩:=Option.map_eq_some_iff.1 h
   simpa using ixI_get hj
theorem ixI_mem {p : Nat} {s : List Nat} {i : Nat} (h : ixI p s = some i) : p ∈ s:=List.mem_of_getElem? (ixI_get h)
theorem MI_get {p : Nat} {s : List Nat} {i : Nat} (h : ixI p s = some i) : (MI s)[i]? = some (Nn (p : Int),.dat (.bool true)):=by
 simp [MI,ixI_get h]
@[simp] theorem MI_app (s : List Nat) (a : Nat) : MI s ++ [(.int .i64 (a : Int),.dat (.bool true))] = MI (s ++ [a]):=by simp [MI]
@[simp] theorem MI_ids (s : List Nat) : AVal.idsL ((MI s).map fun x => x.2) = []:=by
 induction s with
 | nil => rfl
 | cons p r ih => simp only [MI,List.map_cons,AVal.idsL,AVal.ids] at ih ⊢; rw [ih]; rfl
@[simp] theorem MI_ren (f : Id → Id) (s : List Nat) : (MI s).map (fun p => (p.1,p.2.ren f)) = MI s:=by
 unfold MI; rw [List.map_map]; rfl
attribute [local simp] Evt.cells
abbrev RB (r : Nat) : TObj:=.plain (.box [.dat (Nn r)])
abbrev L60 (st : LSt) (a b c : Nat) : TObj:=.plain (.blk (.loop 60 st [(1,.ref ((0,a),0,0) 0),(3,.ref ((0,b),0,0) 0),(4,.ref ((0,c),0,0) 0)]))
abbrev Y60 (es : List Evt) (rf mo : List Dat) (r : Nat) (L : List (Nat × Nat)) : List TObj:=L60 .ready 1 2 3 :: GO es rf mo :: .plain (.box [.dat (Nn es.length),gV (0,4) L]) :: RB r :: gO L
def add60 (x : Evt) (w r : Nat) (L : List (Nat × Nat)) : List (Nat × Nat):=if x.ord = 2 then L ++ [(w,r)] else L
theorem y60 (es : List Evt) (rf mo : List Dat) (hn : es.length ≤ 64) (r w : Nat) (x : Evt) (hw : es[w]? = some x) (L : List (Nat × Nat)) (hl : L.length < 100000) :
  K YID [.dat (Nn w),.bref true ((0,0),0,0)] (Y60 es rf mo r L) = some (.dat (.bool true),Y60 es rf mo r (add60 x w r L)):=by
 have hr : (L.length + 1) * 17 ≤ 1099511627776:=by omega
 obtain ⟨w2,w3,w4⟩:=zkc7 hw
 unfold add60
 by_cases h : x.ord = 2
 ·rw [if_pos h]
  cases L with
  | nil =>
   refine yield_ev (k:=60) (j:=0) (lp:=lp60) rfl rfl rfl rfl ?_
   simp [zla7,zwd7,zda7,zvb7,hw,w2,w3,w4,h]
  | cons p L =>
   refine yield_ev (k:=60) (j:=0) (lp:=lp60) rfl rfl rfl rfl ?_
   simp at hr
   simp [zda7,zvb7,hr,hw,w2,w3,w4,h]
 ·rw [if_neg h]
  cases L with
  | nil =>
   refine yield_ev (k:=60) (j:=0) (lp:=lp60) rfl rfl rfl rfl ?_
   simp [zla7,zwd7,hw,w2,w3,w4,h]
  | cons p L =>
   refine yield_ev (k:=60) (j:=0) (lp:=lp60) rfl rfl rfl rfl ?_
   simp [zda7,zvb7,hw,w2,w3,w4,h]
theorem run112 (es : List Evt) (rf mo : List Dat) (r : Nat) : K 112 [.dat (GD es rf mo),.dat (Nn r)] [] = some (.fn 153 [.ref ((0,0),0,0) 0,.ref ((0,1),0,0) 0],[GO es rf mo,RB r]):=ce rfl (by
 simp)
end Go.Am.E

namespace Go.Rg
def chn (nx : Nat → Int) : Nat → Int → List Nat → List Nat
 | 0,_,_ => []
 | f + 1,w,seen => if 0 ≤ w ∧ w.toNat ∉ seen then w.toNat :: chn nx f (nx w.toNat) (seen ++ [w.toNat]) else []
def back (rmw : Nat → Bool) (nx : Nat → Int) (a : Nat) : Nat → Int → Bool
 | 0,_ => false
 | f + 1,x => if 0 ≤ x then (if x = a then true else if rmw x.toNat = true then back rmw nx a f (nx x.toNat) else false) else false
def itr (nx : Nat → Int) (w : Int) : Nat → Int
 | 0 => w
 | k + 1 => if 0 ≤ itr nx w k then nx (itr nx w k).toNat else itr nx w k
theorem itr_succ (nx : Nat → Int) (w : Int) (h : 0 ≤ w) : ∀ k,itr nx w (k + 1) = itr nx (nx w.toNat) k
 | 0 => by simp [itr,h]
 | k + 1 => by rw [itr,itr_succ nx w h k]; rfl
theorem itr_neg (nx : Nat → Int) (w : Int) (h : ¬ 0 ≤ w) : ∀ k,itr nx w k = w
 | 0 => rfl
 | k + 1 => by rw [itr,itr_neg nx w h k,if_neg h]
theorem back_iff {rmw : Nat → Bool} {nx : Nat → Int} {a : Nat} (hr : ∀ x,rmw x = false → nx x < 0) : ∀ (f : Nat) (x : Int),back rmw nx a f x = true ↔ ∃ k,k < f ∧ itr nx x k = a
 | 0,x => by simp [back]
 | f + 1,x => by
  rw [back]
  by_cases h0 : 0 ≤ x
  ·rw [if_pos h0]
   by_cases h1 : x = a
   ·rw [if_pos h1]
    exact ⟨fun _ => ⟨0,by omega,h1⟩,fun _ => rfl⟩
   ·rw [if_neg h1]
    by_cases h2 : rmw x.toNat = true
    ·rw [if_pos h2,back_iff hr f]
     constructor
     ·rintro ⟨k,hk,e⟩
      exact ⟨k + 1,by omega,by rw [itr_succ nx x h0]; exact e⟩
     ·rintro ⟨k,hk,e⟩
      cases k with
      | zero => exact absurd e h1
      | succ k => exact ⟨k,by omega,by rw [← itr_succ nx x h0]; exact e⟩
    ·rw [if_neg h2]
     have hneg:=hr x.toNat (by simpa using h2)
     constructor
     ·intro h; cases h
     ·rintro ⟨k,hk,e⟩
      cases k with
      | zero => exact absurd e h1
      | succ k =>
       rw [itr_succ nx x h0,itr_neg nx _ (by omega)] at e
       omega
  ·rw [if_neg h0]
   constructor
   ·intro h; cases h
   ·rintro ⟨k,_,e⟩
    rw [itr_neg nx x h0] at e
    omega
theorem chn_sub {nx : Nat → Int} : ∀ (f : Nat) (w : Int) (seen : List Nat) (a : Nat),a ∈ chn nx f w seen → ∃ k,k < f ∧ itr nx w k = a
 | 0,w,seen,a,h => by simp [chn] at h
 | f + 1,w,seen,a,h => by
  rw [chn] at h
  split at h
  ·rename_i hc
   rcases List.mem_cons.1 h with rfl | h
   ·exact ⟨0,by omega,by rw [itr]; omega⟩
   ·obtain ⟨k,hk,e⟩:=chn_sub f _ _ a h
    exact ⟨k + 1,by omega,by rw [itr_succ nx w hc.1]; exact e⟩
  ·simp at h
theorem nodup_le : ∀ (n : Nat) (l : List Nat),l.Nodup → (∀ x ∈ l,x < n) → l.length ≤ n
 | 0,l,h1,h2 => by
  cases l with
  | nil => simp
  | cons x l => exact absurd (h2 x (by simp)) (by omega)
 | n + 1,l,h1,h2 => by
  by_cases hm : n ∈ l
  ·have h3:=nodup_le n (l.erase n) (h1.erase n) fun x hx => by
    have:=(h1.mem_erase_iff).1 hx
    have:=h2 x this.2
    omega
   rw [List.length_erase_of_mem hm] at h3
   omega
  ·have h3:=nodup_le n l h1 fun x hx => by
    have:=h2 x hx
    have : x ≠ n:=fun e => hm (e ▸ hx)
    omega
   omega
theorem chn_all {nx : Nat → Int} {n : Nat} (hn : ∀ x,nx x < n) : ∀ (f m : Nat) (w : Int) (w0 : Int) (seen : List Nat),w0 < n → n + 1 ≤ f + m → seen = (List.range m).map (fun j => (itr nx w0 j).toNat) → seen.Nodup → w = itr nx w0 m → (∀ j,j < m → 0 ≤ itr nx w0 j) →
  ∀ (a k : Nat),itr nx w0 k = (a : Int) → a ∈ seen ∨ a ∈ chn nx f w seen:=by
 intro f
 induction f with
 | zero =>
  intro m w w0 seen hw0 hf hl hnd hw hs a k e
  have hlt : ∀ k,itr nx w0 k < n:=by
   intro k
   induction k with
   | zero => exact hw0
   | succ k ih =>
    rw [itr]
    split
    ·exact hn _
    ·exact ih
  have:=nodup_le n seen hnd fun x hx => by
   rw [hl] at hx
   obtain ⟨j,hj,rfl⟩:=List.mem_map.1 hx
   have:=hs j (List.mem_range.1 hj)
   have:=hlt j
   omega
  rw [hl] at this
  simp at this
  omega
 | succ f ih =>
  intro m w w0 seen hw0 hf hl hnd hw hs a k e
  rw [chn]
  by_cases h0 : 0 ≤ w
  ·by_cases h1 : w.toNat ∈ seen
   ·left
    have hm : 0 < m:=by
     cases m with
     | zero => rw [hl] at h1; simp at h1
     | succ m => omega
    have key : ∀ k,0 ≤ itr nx w0 k ∧ (itr nx w0 k).toNat ∈ seen:=by
     intro k
     induction k with
     | zero => exact ⟨hs 0 hm,by rw [hl]; exact List.mem_map.2 ⟨0,List.mem_range.2 hm,rfl⟩⟩
     | succ k ihk =>
      obtain ⟨i1,i2⟩:=ihk
      rw [hl] at i2
      obtain ⟨j,hj,e1⟩:=List.mem_map.1 i2
      have hj:=List.mem_range.1 hj
      have j0:=hs j hj
      have e2 : itr nx w0 j = itr nx w0 k:=by omega
      have e3 : itr nx w0 (k + 1) = itr nx w0 (j + 1):=by rw [itr,itr,e2]
      rw [e3]
      by_cases hj2 : j + 1 < m
      ·exact ⟨hs _ hj2,by rw [hl]; exact List.mem_map.2 ⟨j + 1,List.mem_range.2 hj2,rfl⟩⟩
      ·have : j + 1 = m:=by omega
       rw [this,← hw]
       exact ⟨h0,h1⟩
    have:=(key k).2
    rw [e] at this
    simpa using this
   ·rw [if_pos ⟨h0,h1⟩]
    have:=ih (m + 1) (nx w.toNat) w0 (seen ++ [w.toNat]) hw0 (by omega) (by rw [List.range_succ,List.map_append,← hl,hw]; rfl) (by
     rw [List.nodup_append]
     refine ⟨hnd,by simp,?_⟩
     intro x hx y hy e'
     simp at hy
     subst hy e'
     exact h1 hx) (by rw [itr,← hw,if_pos h0]) (by
     intro j hj
     by_cases hj' : j < m
     ·exact hs j hj'
     ·have : j = m:=by omega
      subst this
      rw [← hw]
      exact h0) a k e
    rcases this with h | h
    ·rcases List.mem_append.1 h with h | h
     ·exact .inl h
     ·simp at h; exact .inr (by simp [h])
    ·exact .inr (List.mem_cons_of_mem _ h)
  ·left
   have hk : k < m:=by
    refine Classical.byContradiction fun hk => ?_
    have : ∀ d,itr nx w0 (m + d) = w:=by
     intro d
     induction d with
     | zero => exact hw.symm
     | succ d ih => rw [← Nat.add_assoc,itr,ih,if_neg h0]
    have:=this (k - m)
    rw [show m + (k - m) = k by omega] at this
    omega
   rw [hl]
   exact List.mem_map.2 ⟨k,List.mem_range.2 hk,by rw [e]; rfl⟩
theorem chn_back {rmw : Nat → Bool} {nx : Nat → Int} {n : Nat} (hr : ∀ x,rmw x = false → nx x < 0) (hn : ∀ x,nx x < n) (w : Int) (hw : w < n) (a : Nat) : a ∈ chn nx (n + 1) w [] ↔ back rmw nx a (n + 1) w = true:=by
 rw [back_iff hr]
 constructor
 ·exact chn_sub _ _ _ _
 ·rintro ⟨k,_,e⟩
  have:=chn_all hn (n + 1) 0 w w [] hw (by omega) rfl (by simp) rfl (by intro j hj; omega) a k e
  simpa using this
end Go.Rg

set_option maxRecDepth 10000
set_option maxHeartbeats 4000000
namespace Go.Am.E
open Go.Proofs Go.Rc Go.Rg
attribute [local simp] Evt.cells
abbrev nnI (l : List Int) : List Dat:=l.map fun x : Int => Nn x
def nxt (rf : List Int) (w : Nat) : Int:=rf.getD w (-2)
def add1 (es : List Evt) (r : Nat) (L : List (Nat × Nat)) (w : Nat) : List (Nat × Nat):=match es[w]? with
 | some x => add60 x w r L
 | none => L
abbrev B153 (es : List Evt) (rf : List Int) (mo : List Dat) (r : Nat) (id : RId) (L : List (Nat × Nat)) : zgb7:=[((0,0),L60 .ready 3 4 5),((0,1),GO es (nnI rf) mo),((0,2),RB r),((0,3),GO es (nnI rf) mo),((0,4),.plain (.box [.dat (Nn es.length),gV id L])),((0,5),RB r)]
def S153 (es : List Evt) (rf : List Int) (mo : List Dat) (r : Nat) (seen : List Nat) (L : List (Nat × Nat)) : Bool → zgb7
 | true => B153 es rf mo r (0,6) L ++ (gS (0,6) L ++ [((7,0),.plain (.blk (.map (MI seen))))])
 | false => B153 es rf mo r (24,0) L ++ (((7,0),.plain (.blk (.map (MI seen)))) :: gS (24,0) L)
abbrev O153 (es : List Evt) (rf : List Int) (mo : List Dat) (r : Nat) (L : List (Nat × Nat)) : List TObj:=L60 .ready 3 4 5 :: GO es (nnI rf) mo :: RB r :: GO es (nnI rf) mo :: .plain (.box [.dat (Nn es.length),gV (0,6) L]) :: RB r :: gO L
def m153 (c : Bool) : Nat:=if c then 7 else 6
def Q153 (m : Nat) (o : List TObj) (q : AEx × St) : Prop:=q.1 = .exit 0 ∧ endK [] false m (.normal,q.2) = some (.tup [],o)
theorem add60_len (x : Evt) (w r : Nat) (L : List (Nat × Nat)) : (add60 x w r L).length ≤ L.length + 1 ∧ L.length ≤ (add60 x w r L).length:=by
 unfold add60
 split <;> simp
theorem in153 (es : List Evt) (rf : List Int) (mo : List Dat) (r : Nat) (hn : es.length ≤ 64) (hrl : rf.length = es.length) (hrf : ∀ w,nxt rf w < es.length) (c : Bool) : ∀ (f : Nat) (w : Int) (L : List (Nat × Nat)) (seen : List Nat) (st : St),
  es.length + 1 ≤ f + seen.length → seen.Nodup → (∀ x ∈ seen,x < es.length) → w < es.length → L.length + f < 10000 → (c = true → L ≠ []) →
  hd [0,1,4,5] [] st = some ⟨[(0,.bref true ((0,0),0,0)),(1,.ref ((0,1),0,0) 0),(4,.bref false ((7,0),0,0)),(5,.dat (Nn w))],S153 es rf mo r seen L c⟩ →
  Ev (zva7 (exec K l153_0) st) (Q153 (m153 c) (O153 es rf mo r ((chn (nxt rf) f w seen).foldl (add1 es r) L))):=by
 intro f
 induction f with
 | zero =>
  intro w L seen st hf hnd hb _ _ _ _
  have:=nodup_le _ seen hnd hb
  omega
 | succ f ih =>
  intro w L seen st hf hnd hb hw hl hc hs
  apply zle7
  rw [chn]
  by_cases h0 : 0 ≤ w
  ·obtain ⟨wn,rfl⟩:=Int.eq_ofNat_of_zero_le h0
   have hwn : wn < es.length:=by omega
   have hx:=List.getElem?_eq_getElem hwn
   generalize es[wn] = x at hx
   obtain ⟨x2,x3,x4⟩:=zkc7 hx
   have hr1 : wn < rf.length:=by omega
   have hr3 : (wn : Int) < rf.length:=by omega
   have hr2 : rf[wn]'hr1 = nxt rf wn:=by simp [nxt,hr1]
   have hr4 : rf[wn]? = some (nxt rf wn):=by rw [List.getElem?_eq_getElem hr1,hr2]
   have ixw : Ix wn:=by unfold Ix; omega
   cases hm : ixI wn seen with
   | some j =>
    have hmem:=ixI_mem hm
    have hg:=MI_get hm
    rw [if_neg (by simp [hmem])]
    cases c with
    | false =>
     cases L with
     | nil => simp [hs,S153,zla7,zta7,zwd7,lkpE,keyE,find_I,hm,hg,zeroV,m153,Q153]
     | cons p L => simp [hs,S153,zda7,zfa7,zvb7,lkpE,keyE,find_I,hm,hg,zeroV,m153,Q153]
    | true =>
     cases L with
     | nil => exact absurd rfl (hc rfl)
     | cons p L => simp [hs,S153,zda7,zfa7,zvb7,lkpE,keyE,find_I,hm,hg,zeroV,m153,Q153]
   | none =>
    have hno:=ixI_none.1 hm
    rw [if_pos ⟨by omega,by simpa using hno⟩]
    have hy:=y60 es (nnI rf) mo hn r wn x hx L (by omega)
    have hal:=add60_len x wn r L
    have ih:=ih (nxt rf wn) (add60 x wn r L) (seen ++ [wn])
    have e1 : add1 es r L wn = add60 x wn r L:=by simp [add1,hx]
    simp only [Int.toNat_natCast,List.foldl_cons,e1]
    generalize add60 x wn r L = L' at *
    have ih:=fun st h2 h1 => ih st (by simp; omega) (by
     rw [List.nodup_append]
     refine ⟨hnd,by simp,?_⟩
     intro z hz y hy e'
     simp at hy
     exact hno (by rw [← hy,← e']; exact hz)) (by
     intro z hz
     rcases List.mem_append.1 hz with h | h
     ·exact hb z h
     ·simp at h; omega) (hrf wn) (by omega) h2 h1
    cases c with
    | false =>
     cases L with
     | nil =>
      simp [YID,Y60,L60,zla7,zwd7] at hy
      cases L' with
      | nil =>
       simp [zla7,zwd7] at hy
       simp [hs,S153,zla7,zta7,lkpE,mupE,keyE,find_I,hm,zeroV,zea7,zxa7,YID,hy,x2,x3,x4,hr1,hr2,hr3,hr4]
       exact ih _ (by simp) (by simp [S153,zla7,zta7])
      | cons q L' =>
       simp [zda7,zvb7] at hy
       simp [hs,S153,zla7,zta7,zda7,zfa7,lkpE,mupE,keyE,find_I,hm,zeroV,zea7,zxa7,YID,hy,x2,x3,x4,hr1,hr2,hr3,hr4]
       exact ih _ (by simp) (by simp [S153,zda7,zfa7])
     | cons p L =>
      cases L' with
      | nil => simp at hal
      | cons q L' =>
       simp [YID,Y60,L60,zda7,zvb7] at hy
       simp [hs,S153,zda7,zfa7,lkpE,mupE,keyE,find_I,hm,zeroV,zea7,zxa7,YID,hy,x2,x3,x4,hr1,hr2,hr3,hr4]
       exact ih _ (by simp) (by simp [S153,zda7,zfa7])
    | true =>
     cases L with
     | nil => exact absurd rfl (hc rfl)
     | cons p L =>
      cases L' with
      | nil => simp at hal
      | cons q L' =>
       simp [YID,Y60,L60,zda7,zvb7] at hy
       simp [hs,S153,zda7,zfa7,lkpE,mupE,keyE,find_I,hm,zeroV,zea7,zxa7,YID,hy,x2,x3,x4,hr1,hr2,hr3,hr4]
       exact ih _ (by simp) (by simp [S153,zda7,zfa7])
  ·rw [if_neg (by simp [h0])]
   cases c with
   | false =>
    cases L with
    | nil => simp [hs,h0,S153,zla7,zta7,zwd7,m153,Q153]
    | cons p L => simp [hs,h0,S153,zda7,zfa7,zvb7,m153,Q153]
   | true =>
    cases L with
    | nil => exact absurd rfl (hc rfl)
    | cons p L => simp [hs,h0,S153,zda7,zfa7,zvb7,m153,Q153]
theorem run153 (es : List Evt) (rf : List Int) (mo : List Dat) (r : Nat) (hn : es.length ≤ 64) (hrl : rf.length = es.length) (hrf : ∀ w,nxt rf w < es.length) (hr : r < es.length) (L : List (Nat × Nat)) (hl : L.length < 9000) :
  K 153 [.bref true ((0,0),0,0),.ref ((0,1),0,0) 0,.ref ((0,2),0,0) 0] (O153 es rf mo r L) = some (.tup [],O153 es rf mo r ((chn (nxt rf) (es.length + 1) (nxt rf r) []).foldl (add1 es r) L)):=ce rfl (by
 have hr1 : r < rf.length:=by omega
 have hr3 : (r : Int) < rf.length:=by omega
 have hr2 : rf[r]'hr1 = nxt rf r:=by simp [nxt,hr1]
 have hr4 : rf[r]? = some (nxt rf r):=by rw [List.getElem?_eq_getElem hr1,hr2]
 cases L with
 | nil =>
  have h:=in153 es rf mo r hn hrl hrf false (es.length + 1) (nxt rf r) [] []
  simp [zla7,zwd7,hr1,hr2,hr3,hr4]
  simp only [zca7]
  refine (h _ (by simp) (by simp) (by simp) (hrf r) (by simp; omega) (by simp) (by simp [S153,zla7,zta7,MI])).mono ?_
  rintro ⟨_,st⟩ ⟨rfl,hq⟩
  dsimp only at hq
  simp [m153] at hq
  simp [hq]
 | cons p L =>
  have h:=in153 es rf mo r hn hrl hrf true (es.length + 1) (nxt rf r) (p :: L) []
  simp [zda7,zvb7,hr1,hr2,hr3,hr4]
  simp only [zca7]
  refine (h _ (by simp) (by simp) (by simp) (hrf r) (by simp at hl ⊢; omega) (by simp) (by simp [S153,zda7,zfa7,MI])).mono ?_
  rintro ⟨_,st⟩ ⟨rfl,hq⟩
  dsimp only at hq
  simp [m153] at hq
  simp [hq])
end Go.Am.E

set_option maxRecDepth 10000
set_option maxHeartbeats 4000000
namespace Go.Am.E
open Go.Proofs Go.Rc Go.Rg
attribute [local simp] Evt.cells
def swS (es : List Evt) (rf : List Int) (L : List (Nat × Nat)) (r : Nat) (x : Evt) : List (Nat × Nat):=if (rdE x && decide (x.ord = 2)) = true then (chn (nxt rf) (es.length + 1) (nxt rf r) []).foldl (add1 es r) L else L
def swL (es : List Evt) (rf : List Int) (k : Nat) : List (Nat × Nat):=(List.range k).foldl (fun L r => match es[r]? with | some x => swS es rf L r x | none => L) []
theorem swL_succ {es : List Evt} {rf : List Int} {k : Nat} {x : Evt} (h : es[k]? = some x) : swL es rf (k + 1) = swS es rf (swL es rf k) k x:=by
 simp [swL,List.range_succ,h]
theorem chn_len (nx : Nat → Int) : ∀ (f : Nat) (w : Int) (seen : List Nat),(chn nx f w seen).length ≤ f
 | 0,w,seen => by simp [chn]
 | f + 1,w,seen => by
  rw [chn]
  split
  ·have:=chn_len nx f (nx w.toNat) (seen ++ [w.toNat])
   simp; omega
  ·simp
theorem addf_len (es : List Evt) (r : Nat) : ∀ (ws : List Nat) (L : List (Nat × Nat)),(ws.foldl (add1 es r) L).length ≤ L.length + ws.length ∧ L.length ≤ (ws.foldl (add1 es r) L).length
 | [],L => by simp
 | w :: ws,L => by
  have h:=addf_len es r ws (add1 es r L w)
  have h2 : (add1 es r L w).length ≤ L.length + 1 ∧ L.length ≤ (add1 es r L w).length:=by
   unfold add1
   split
   ·exact add60_len _ _ _ _
   ·simp
  simp only [List.foldl_cons,List.length_cons]
  omega
theorem swS_len (es : List Evt) (rf : List Int) (L : List (Nat × Nat)) (r : Nat) (x : Evt) : (swS es rf L r x).length ≤ L.length + (es.length + 1) ∧ L.length ≤ (swS es rf L r x).length:=by
 unfold swS
 split
 ·have h1:=addf_len es r (chn (nxt rf) (es.length + 1) (nxt rf r) []) L
  have h2:=chn_len (nxt rf) (es.length + 1) (nxt rf r) []
  omega
 ·omega
theorem swL_len (es : List Evt) (rf : List Int) : ∀ k,k ≤ es.length → (swL es rf k).length ≤ k * (es.length + 1)
 | 0,_ => by simp [swL]
 | k + 1,hk => by
  have h:=swL_len es rf k (by omega)
  have hx:=List.getElem?_eq_getElem (l:=es) (i:=k) (by omega)
  rw [swL_succ hx,Nat.add_mul,Nat.one_mul]
  have:=(swS_len es rf (swL es rf k) k es[k]).1
  omega
theorem addf_mem (es : List Evt) (r : Nat) (a b : Nat) : ∀ (ws : List Nat) (L : List (Nat × Nat)),(a,b) ∈ ws.foldl (add1 es r) L ↔ (a,b) ∈ L ∨ (b = r ∧ a ∈ ws ∧ ∃ x,es[a]? = some x ∧ x.ord = 2)
 | [],L => by simp
 | w :: ws,L => by
  have h:=addf_mem es r a b ws (add1 es r L w)
  rw [List.foldl_cons,h]
  have h2 : (a,b) ∈ add1 es r L w ↔ (a,b) ∈ L ∨ (b = r ∧ a = w ∧ ∃ x,es[a]? = some x ∧ x.ord = 2):=by
   unfold add1
   split
   ·rename_i x hx
    unfold add60
    split
    ·rename_i ho
     simp only [List.mem_append,List.mem_singleton,Prod.mk.injEq]
     constructor
     ·rintro (h | ⟨rfl,rfl⟩)
      ·exact .inl h
      ·exact .inr ⟨rfl,rfl,x,hx,ho⟩
     ·rintro (h | ⟨rfl,rfl,_⟩)
      ·exact .inl h
      ·exact .inr ⟨rfl,rfl⟩
    ·rename_i ho
     constructor
     ·exact .inl
     ·rintro (h | ⟨rfl,rfl,y,hy,ho'⟩)
      ·exact h
      ·rw [hx] at hy; cases hy; exact absurd ho' ho
   ·rename_i hx
    constructor
    ·exact .inl
    ·rintro (h | ⟨rfl,rfl,y,hy,ho'⟩)
     ·exact h
     ·rw [hx] at hy; cases hy
  rw [h2]
  constructor
  ·rintro ((h | ⟨h3,h4,h5⟩) | ⟨h3,h4,h5⟩)
   ·exact .inl h
   ·exact .inr ⟨h3,by simp [h4],h5⟩
   ·exact .inr ⟨h3,by simp [h4],h5⟩
  ·rintro (h | ⟨h3,h4,h5⟩)
   ·exact .inl (.inl h)
   ·rcases List.mem_cons.1 h4 with h4 | h4
    ·exact .inl (.inr ⟨h3,h4,h5⟩)
    ·exact .inr ⟨h3,h4,h5⟩
theorem swL_mem (es : List Evt) (rf : List Int) (a b : Nat) : ∀ k,k ≤ es.length → ((a,b) ∈ swL es rf k ↔ b < k ∧ ∃ y,es[b]? = some y ∧ (rdE y && decide (y.ord = 2)) = true ∧ a ∈ chn (nxt rf) (es.length + 1) (nxt rf b) [] ∧ ∃ x,es[a]? = some x ∧ x.ord = 2)
 | 0,_ => by simp [swL]
 | k + 1,hk => by
  have ih:=swL_mem es rf a b k (by omega)
  have hx:=List.getElem?_eq_getElem (l:=es) (i:=k) (by omega)
  generalize es[k] = z at hx
  rw [swL_succ hx,swS]
  split
  ·rename_i hc
   rw [addf_mem,ih]
   constructor
   ·rintro (⟨h1,h2⟩ | ⟨rfl,h1,h2⟩)
    ·exact ⟨by omega,h2⟩
    ·exact ⟨by omega,z,hx,hc,h1,h2⟩
   ·rintro ⟨h1,y,h2,h3,h4,h5⟩
    by_cases e : b = k
    ·subst e
     exact .inr ⟨rfl,h4,h5⟩
    ·exact .inl ⟨by omega,y,h2,h3,h4,h5⟩
  ·rename_i hc
   rw [ih]
   constructor
   ·rintro ⟨h1,h2⟩
    exact ⟨by omega,h2⟩
   ·rintro ⟨h1,y,h2,h3,h4,h5⟩
    by_cases e : b = k
    ·subst e
     rw [hx] at h2
     cases h2
     exact absurd h3 hc
    ·exact ⟨by omega,y,h2,h3,h4,h5⟩
abbrev S60 (es : List Evt) (rf : List Int) (mo : List Dat) (L : List (Nat × Nat)) : zgb7:=((2,0),GO es (nnI rf) mo) :: ((3,0),.plain (.box [.dat (.int .i64 0),.nils])) :: ((4,0),.plain (.box [.dat (Nn es.length),gV (4,1) L])) :: gS (4,1) L
theorem run60 (es : List Evt) (rf : List Int) (mo : List Dat) (hn : es.length ≤ 64) (hrl : rf.length = es.length) (hrf : ∀ w,nxt rf w < es.length) :
  K 60 [.dat (GD es (nnI rf) mo)] [] = some (.dat (Rel es.length (prs es.length fun a b => decide ((a,b) ∈ swL es rf es.length))),[]):=ce rfl (by
 have hin : inN es.length (swL es rf es.length):=by
  have h1:=swL_len es rf es.length (Nat.le_refl _)
  have h2 : es.length * (es.length + 1) ≤ 64 * 65:=Nat.mul_le_mul hn (by omega)
  refine ⟨hn,by omega,fun p hp => ?_⟩
  obtain ⟨a,b⟩:=p
  obtain ⟨h3,y,_,_,_,x,h4,_⟩:=(swL_mem es rf a b es.length (Nat.le_refl _)).1 hp
  exact ⟨(zkc7 h4).2.2,h3⟩
 have h107:=run107 hin
 simp
 simp only [zca7]
 refine (zwc7 (live:=[1,2,3,12,13,14]) (drop:=[1,2,3,12]) es (by omega) (fun k => ⟨[(1,.ref ((2,0),0,0) 0),(2,.ref ((3,0),0,0) 0),(3,.ref ((4,0),0,0) 0),(12,.dat (.sl (es.map Evt.dat))),(13,.dat (Nn es.length)),(14,.dat (Nn k))],S60 es rf mo (swL es rf k)⟩)
  (fun _ q => q.1 = .exit 0 ∧ hd [2,3] [] q.2 = some ⟨[(2,.ref ((3,0),0,0) 0),(3,.ref ((4,0),0,0) 0)],S60 es rf mo (swL es rf es.length)⟩) (fun i x s g1 g2 g3 ix hs => ?_) (fun s hs => ?_) _ (by simp [swL,zla7,zta7])).mono ?_
 ·have hi:=(zkc7 g1).2.2
  have hsu:=swL_succ (rf:=rf) g1
  have hle:=swL_len es rf i (by omega)
  have h2 : i * (es.length + 1) ≤ 64 * 65:=Nat.mul_le_mul (by omega) (by omega)
  have hsl:=swS_len es rf (swL es rf i) i x
  have h111:=run111 x
  have h112:=run112 es (nnI rf) mo i
  have h153:=run153 es rf mo i hn hrl hrf hi (swL es rf i) (by omega)
  rw [swS] at hsu hsl
  generalize swL es rf i = L at *
  obtain ⟨ag,idx,kind,obj,mux,ent,ord,rd,wr⟩:=x
  simp only [Evt.dat,Evt.cells] at h111
  generalize rdE ⟨ag,idx,kind,obj,mux,ent,ord,rd,wr⟩ = rb at *
  dsimp only at hsu hsl
  cases rb with
  | false =>
   simp at hsu
   cases L with
   | nil => simp [hs,g1,g2,g3,ix,hsu,h111,zla7,zta7]
   | cons p L => simp [hs,g1,g2,g3,ix,hsu,h111,zda7,zfa7]
  | true =>
   by_cases ho : ord = 2
   ·subst ho
    rw [if_pos (by simp)] at hsu hsl
    generalize (chn (nxt rf) (es.length + 1) (nxt rf i) []).foldl (add1 es i) L = L' at *
    cases L with
    | nil =>
     simp [YID,O153,L60,zla7,zwd7] at h153
     cases L' with
     | nil =>
      simp [zla7,zwd7] at h153
      simp [hs,g1,g2,g3,ix,hsu,h111,h112,h153,zla7,zta7,YID,BIGF]
     | cons q L' =>
      simp [zda7,zvb7] at h153
      simp [hs,g1,g2,g3,ix,hsu,h111,h112,h153,zla7,zta7,zda7,zfa7,YID,BIGF]
    | cons p L =>
     cases L' with
     | nil => simp at hsl
     | cons q L' =>
      simp [YID,O153,L60,zda7,zvb7] at h153
      simp [hs,g1,g2,g3,ix,hsu,h111,h112,h153,zda7,zfa7,YID,BIGF]
   ·rw [if_neg (by simp [ho])] at hsu
    cases L with
    | nil => simp [hs,g1,g2,g3,ix,hsu,h111,ho,zla7,zta7]
    | cons p L => simp [hs,g1,g2,g3,ix,hsu,h111,ho,zda7,zfa7]
 ·generalize swL es rf es.length = L at *
  cases L with
  | nil => simp [hs,zla7,zta7]
  | cons p L => simp [hs,zda7,zfa7]
 ·rintro ⟨_,s⟩ ⟨rfl,hs⟩
  dsimp only at hs
  generalize swL es rf es.length = L at *
  cases L with
  | nil =>
   simp only [Rel,List.map_cons,List.map_nil] at h107
   simp [hs,zla7,zta7,h107]
  | cons p L =>
   simp only [Rel,List.map_cons,List.map_nil] at h107
   simp [hs,zda7,zfa7,h107])
end Go.Am.E

set_option maxRecDepth 10000
set_option maxHeartbeats 4000000
namespace Go.Am.E
open Go.Proofs Go.Rc Go.Rg
def poL (es : List Evt) : List (Nat × Nat):=prs es.length (poP es)
def soL (es : List Evt) : List (Nat × Nat):=prs es.length (soP es)
def swR (es : List Evt) (rf : List Int) : List (Nat × Nat):=prs es.length fun a b => decide ((a,b) ∈ swL es rf es.length)
def hbP (es : List Evt) (rf : List Int) : List (Nat × Nat):=clo es.length [poL es,soL es,swR es rf].flatten
theorem run54 (es : List Evt) (rf : List Int) (mo : List Dat) (hn : es.length ≤ 64) (hrl : rf.length = es.length) (hrf : ∀ w,nxt rf w < es.length) :
  K 54 [.ref ((0,0),0,0) 0] [GO es (nnI rf) mo] = some (.dat (Rel es.length (hbP es rf)),[GO es (nnI rf) mo]):=ce rfl (by
 have h1:=run56 es (nnI rf) mo hn
 have h2:=run58 es (nnI rf) mo
 have h3:=run57b es (nnI rf) mo hn
 have h4:=run60 es rf mo hn hrl hrf
 have hnn : es.length * es.length ≤ 64 * 64:=Nat.mul_le_mul hn hn
 have l1:=prs_len es.length (poP es)
 have l2:=prs_len es.length (soP es)
 have l3:=prs_len es.length fun a b => decide ((a,b) ∈ swL es rf es.length)
 have h5:=run55 es.length [poL es,soL es,swR es rf] hn (by
  intro r hr
  simp only [List.mem_cons,List.not_mem_nil,or_false] at hr
  rcases hr with rfl | rfl | rfl <;> exact prs_in hn) (by
  simp only [List.flatten_cons,List.flatten_nil,List.append_nil,List.length_append,poL,soL,swR]
  omega) (by simp)
 rw [← hbP] at h5
 change K 56 _ _ = some (.dat (Rel es.length (poL es)),_) at h1
 change K 57 _ _ = some (.dat (Rel es.length (soL es)),_) at h3
 change K 60 _ _ = some (.dat (Rel es.length (swR es rf)),_) at h4
 generalize poL es = L1 at *
 generalize soL es = L2 at *
 generalize swR es rf = L3 at *
 generalize hbP es rf = L4 at *
 simp only [List.map_cons,List.map_nil] at h5
 simp [h1,h2,h3,h4,h5,YID,pairK,apartC,chgOf,slim,sameAt,TObj.same,Obj.same,sameAll,AVal.same,Dat.eqv,zpc7,meets,updT])
theorem run53 (es : List Evt) (rf : List Int) (mo : List Dat) (hn : es.length ≤ 64) (hrl : rf.length = es.length) (hrf : ∀ w,nxt rf w < es.length) (hv : K 103 [.dat (GD es (nnI rf) mo)] [] = some (.dat (.bool true),[])) :
  K 53 [.dat (GD es (nnI rf) mo),.fn 54 [.ref ((0,0),0,0) 0]] [GO es (nnI rf) mo] = some (.tup [.dat (Rel es.length (hbP es rf)),.dat (Nn 0)],[GO es (nnI rf) mo]):=ce rfl (by
 have h:=run54 es rf mo hn hrl hrf
 generalize hbP es rf = L4 at *
 simp [h,hv,YID])
theorem run53n (es : List Evt) (rf mo : List Dat) (hv : K 103 [.dat (GD es rf mo)] [] = some (.dat (.bool false),[])) :
  K 53 [.dat (GD es rf mo),.fn 54 [.ref ((0,0),0,0) 0]] [GO es rf mo] = some (.tup [.dat (Rel 0 []),.dat (Nn 1)],[GO es rf mo]):=ce rfl (by
 simp [hv,YID])
theorem run34 (es : List Evt) (rf : List Int) (mo : List Dat) (hn : es.length ≤ 64) (hrl : rf.length = es.length) (hrf : ∀ w,nxt rf w < es.length) (hv : K 103 [.dat (GD es (nnI rf) mo)] [] = some (.dat (.bool true),[])) :
  K 34 [.dat (GD es (nnI rf) mo)] [] = some (.tup [.dat (Rel es.length (hbP es rf)),.dat (Nn 0)],[]):=ce rfl (by
 have h:=run53 es rf mo hn hrl hrf hv
 generalize hbP es rf = L4 at *
 simp [h,YID])
theorem run34n (es : List Evt) (rf mo : List Dat) (hv : K 103 [.dat (GD es rf mo)] [] = some (.dat (.bool false),[])) :
  K 34 [.dat (GD es rf mo)] [] = some (.tup [.dat (Rel 0 []),.dat (Nn 1)],[]):=ce rfl (by
 have h:=run53n es rf mo hv
 simp only [Rel,List.map_nil] at h
 simp [h,YID])
end Go.Am.E

set_option maxRecDepth 10000
set_option maxHeartbeats 4000000
namespace Go.Am.E
open Go.Proofs Go.Rc Go.Rg
attribute [local simp] Evt.cells
theorem run185 (es : List Evt) (rf mo : List Dat) (hl : es.length ≤ 64) (a b : Nat) (x y : Evt) (ha : es[a]? = some x) (hb : es[b]? = some y) :
  K 185 [.dat (GD es rf mo),.dat (Nn a),.dat (Nn b)] [] = some (.dat (.bool (syncR a b x y)),[]):=ce rfl (by
 obtain ⟨a2,a3,a4⟩:=zkc7 ha
 obtain ⟨b2,b3,b4⟩:=zkc7 hb
 have h1:=run235 x
 have h2:=run235 y
 have h3:=run236 x
 have h4:=run236 y
 unfold syncR
 generalize muR x = ma at *
 generalize muR y = mb at *
 generalize cdE x = ca at *
 generalize cdE y = cb at *
 obtain ⟨ag,idx,kind,obj,mux,ent,ord,rd,wr⟩:=x
 obtain ⟨ag',idx',kind',obj',mux',ent',ord',rd',wr'⟩:=y
 simp only [Evt.dat,Evt.cells] at h1 h2 h3 h4
 by_cases e0 : a < b
 ·by_cases c2 : ma = mb
  ·subst c2
   by_cases c1 : 0 ≤ ma
   ·simp [ha,hb,a2,a3,a4,b2,b3,b4,h1,h2,c1,e0]
   ·by_cases c3 : 0 ≤ ca <;> simp [ha,hb,a2,a3,a4,b2,b3,b4,h1,h2,h3,h4,c1,c3,e0]
  ·by_cases c1 : 0 ≤ ma <;> by_cases c3 : 0 ≤ ca <;> simp [ha,hb,a2,a3,a4,b2,b3,b4,h1,h2,h3,h4,c1,c2,c3,e0]
 ·simp [ha,hb,a2,a3,a4,b2,b3,b4,e0])
def rmwE (es : List Evt) (w : Nat) : Bool:=match es[w]? with
 | some x => decide (x.kind = 5)
 | none => false
def swB (es : List Evt) (rf : List Int) (a b : Nat) (x y : Evt) : Bool:=(wrE x && decide (x.ord = 2)) && (rdE y && decide (y.ord = 2)) && back (rmwE es) (nxt rf) a (es.length + 1) (nxt rf b)
abbrev S186 (es : List Evt) (rf : List Int) (mo : List Dat) (x y : Evt) : zgb7:=[((4,0),GO es (nnI rf) mo),((8,0),XB x),((9,0),XB y)]
def Q186 (v : Bool) (q : AEx × St) : Prop:=(q.1 = .exit 0 ∧ v = false) ∨ (q.1 = .ret ∧ endK [.t 6] false 0 q = some (.dat (.bool v),[]))
theorem in186 (es : List Evt) (rf : List Int) (mo : List Dat) (hn : es.length ≤ 64) (hrl : rf.length = es.length) (hrf : ∀ w,nxt rf w < es.length) (a : Nat) (x y : Evt) : ∀ (f i : Nat) (w : Int) (st : St),i + f = es.length + 1 → w < es.length →
  hd [1,3,9,10] [] st = some ⟨[(1,.dat (Nn a)),(3,.ref ((4,0),0,0) 0),(9,.dat (Nn w)),(10,.dat (Nn i))],S186 es rf mo x y⟩ →
  Ev (zva7 (exec K l186_0) st) (Q186 (back (rmwE es) (nxt rf) a f w)):=by
 intro f
 induction f with
 | zero =>
  intro i w st hi hw hs
  apply zle7
  have h1 : ¬ (i : Int) ≤ es.length:=by omega
  simp [hs,h1,back,Q186]
 | succ f ih =>
  intro i w st hi hw hs
  apply zle7
  have h1 : (i : Int) ≤ es.length:=by omega
  have ix : Ix i:=by unfold Ix; omega
  rw [back]
  by_cases h0 : 0 ≤ w
  ·obtain ⟨wn,rfl⟩:=Int.eq_ofNat_of_zero_le h0
   have hwn : wn < es.length:=by omega
   have hx:=List.getElem?_eq_getElem hwn
   generalize es[wn] = z at hx
   obtain ⟨x2,x3,x4⟩:=zkc7 hx
   have hr1 : wn < rf.length:=by omega
   have hr3 : (wn : Int) < rf.length:=by omega
   have hr2 : rf[wn]'hr1 = nxt rf wn:=by simp [nxt,hr1]
   have hr4 : rf[wn]? = some (nxt rf wn):=by rw [List.getElem?_eq_getElem hr1,hr2]
   have hk : rmwE es wn = decide (z.kind = 5):=by simp [rmwE,hx]
   rw [if_pos h0]
   by_cases e : wn = a
   ·subst e
    rw [if_pos rfl]
    simp [hs,h1,Q186]
   ·have e' : ¬ (wn : Int) = a:=by omega
    rw [if_neg e']
    by_cases e5 : z.kind = 5
    ·rw [if_pos (by simpa [hk] using e5)]
     have ih:=ih (i + 1) (nxt rf wn)
     simp [hs,h1,e,e',e5,x2,x3,x4,hx,hr1,hr2,hr3,hr4,ix]
     exact ih _ (by omega) (hrf wn) (by simp)
    ·rw [if_neg (by simpa [hk] using e5)]
     simp [hs,h1,e,e',e5,x2,x3,x4,hx,Q186]
  ·rw [if_neg h0]
   simp [hs,h1,h0,Q186]
end Go.Am.E

set_option maxRecDepth 10000
set_option maxHeartbeats 4000000
namespace Go.Am.E
open Go.Proofs Go.Rc Go.Rg
attribute [local simp] Evt.cells
theorem run186 (es : List Evt) (rf : List Int) (mo : List Dat) (hn : es.length ≤ 64) (hrl : rf.length = es.length) (hrf : ∀ w,nxt rf w < es.length) (a b : Nat) (x y : Evt) (ha : es[a]? = some x) (hb : es[b]? = some y) :
  K 186 [.dat (GD es (nnI rf) mo),.dat (Nn a),.dat (Nn b)] [] = some (.dat (.bool (swB es rf a b x y)),[]):=ce rfl (by
 obtain ⟨a2,a3,a4⟩:=zkc7 ha
 obtain ⟨b2,b3,b4⟩:=zkc7 hb
 have h1:=run156 x
 have h2:=run181 y
 have hin:=in186 es rf mo hn hrl hrf a x y (es.length + 1) 0 (nxt rf b)
 have hr1 : b < rf.length:=by omega
 have hr3 : (b : Int) < rf.length:=by omega
 have hr2 : rf[b]'hr1 = nxt rf b:=by simp [nxt,hr1]
 have hr4 : rf[b]? = some (nxt rf b):=by rw [List.getElem?_eq_getElem hr1,hr2]
 have hlt:=hrf b
 unfold swB
 generalize back (rmwE es) (nxt rf) a (es.length + 1) (nxt rf b) = v at *
 generalize wrE x = wx at *
 generalize rdE y = ry at *
 obtain ⟨ag,idx,kind,obj,mux,ent,ord,rd,wr⟩:=x
 obtain ⟨ag',idx',kind',obj',mux',ent',ord',rd',wr'⟩:=y
 simp only [Evt.dat,Evt.cells] at h1 h2
 cases wx with
 | false => simp [ha,hb,a2,a3,a4,b2,b3,b4,h1]
 | true =>
  by_cases e1 : ord = 2
  ·subst e1
   cases ry with
   | false => simp [ha,hb,a2,a3,a4,b2,b3,b4,h1,h2]
   | true =>
    by_cases e2 : ord' = 2
    ·subst e2
     simp [ha,hb,a2,a3,a4,b2,b3,b4,h1,h2,hr1,hr2,hr3,hr4]
     simp only [zca7]
     refine (hin _ (by omega) hlt (by simp)).mono ?_
     rintro ⟨e,st⟩ (⟨h,rfl⟩ | ⟨h,hq⟩)
     ·dsimp only at h
      subst h
      obtain ⟨env,objs⟩:=st
      simp
     ·dsimp only at h
      subst h
      simp [hq]
    ·simp [ha,hb,a2,a3,a4,b2,b3,b4,h1,h2,e2]
  ·cases ry <;> simp [ha,hb,a2,a3,a4,b2,b3,b4,h1,h2,e1])
theorem run158p (es : List Evt) (rf mo : List Dat) (hl : es.length ≤ 64) (a b : Nat) (x y : Evt) (ha : es[a]? = some x) (hb : es[b]? = some y) :
  K 158 [.dat (GD es rf mo),.dat (.int .u8 112),.dat (Nn a),.dat (Nn b)] [] = some (.dat (.bool (poB a b x y)),[]):=ce rfl (by
 have h:=run182 es rf mo hl a b x y ha hb
 simp [h])
theorem run158s (es : List Evt) (rf mo : List Dat) (hl : es.length ≤ 64) (a b : Nat) (x y : Evt) (ha : es[a]? = some x) (hb : es[b]? = some y) :
  K 158 [.dat (GD es rf mo),.dat (.int .u8 115),.dat (Nn a),.dat (Nn b)] [] = some (.dat (.bool (syncR a b x y)),[]):=ce rfl (by
 have h:=run185 es rf mo hl a b x y ha hb
 simp [h])
theorem run158w (es : List Evt) (rf : List Int) (mo : List Dat) (hn : es.length ≤ 64) (hrl : rf.length = es.length) (hrf : ∀ w,nxt rf w < es.length) (a b : Nat) (x y : Evt) (ha : es[a]? = some x) (hb : es[b]? = some y) :
  K 158 [.dat (GD es (nnI rf) mo),.dat (.int .u8 119),.dat (Nn a),.dat (Nn b)] [] = some (.dat (.bool (swB es rf a b x y)),[]):=ce rfl (by
 have h:=run186 es rf mo hn hrl hrf a b x y ha hb
 simp [h])
def nmB (es : List Evt) (rf : List Int) (a b : Nat) (x y : Evt) : Nat → Bool
 | 0 => false
 | 1 => poB a b x y
 | 2 => poB a b x y || syncR a b x y
 | _ => poB a b x y || syncR a b x y || swB es rf a b x y
abbrev S115 (es : List Evt) (rf : List Int) (mo : List Dat) (L : List (Nat × Nat)) : zgb7:=((3,0),GO es (nnI rf) mo) :: ((5,0),.plain (.box [.dat (.int .i64 0),.nils])) :: ((6,0),.plain (.box [.dat (Nn es.length),gV (6,1) L])) :: gS (6,1) L
abbrev E115 (r : Env) : Env:=(1,.dat (.str [112,115,119])) :: (2,.ref ((3,0),0,0) 0) :: (4,.ref ((5,0),0,0) 0) :: (5,.ref ((6,0),0,0) 0) :: r
theorem ina115 (es : List Evt) (rf : List Int) (mo : List Dat) (hn : es.length ≤ 64) (hrl : rf.length = es.length) (hrf : ∀ w,nxt rf w < es.length) (a b : Nat) (x y : Evt) (ha : es[a]? = some x) (hb : es[b]? = some y) (L : List (Nat × Nat)) (st : St)
  (hs : hd [1,2,4,5,6,7,8,9] [] st = some ⟨E115 [(6,.dat (Nn a)),(7,.dat (Nn b)),(8,.dat (.bool false)),(9,.dat (Nn 0))],S115 es rf mo L⟩) :
  Ev (zva7 (exec K l115_0) st) fun q => q.1 = .exit 4 ∧ hd [1,2,4,5,6,7,8] [] q.2 = some ⟨E115 [(6,.dat (Nn a)),(7,.dat (Nn b)),(8,.dat (.bool (nmB es rf a b x y 3)))],S115 es rf mo L⟩:=by
 refine znd7 (live:=[1,2,4,5,6,7,8,9]) (drop:=[]) 3 (fun k => ⟨E115 [(6,.dat (Nn a)),(7,.dat (Nn b)),(8,.dat (.bool (nmB es rf a b x y k))),(9,.dat (Nn k))],S115 es rf mo L⟩) (fun _ q => q.1 = .exit 4 ∧ hd [1,2,4,5,6,7,8] [] q.2 = some ⟨E115 [(6,.dat (Nn a)),(7,.dat (Nn b)),(8,.dat (.bool (nmB es rf a b x y 3)))],S115 es rf mo L⟩)
  (fun k st hk hs => ?_) (fun st hs => ?_) 3 0 st (by omega) hs
 ·have h1:=run158p es (nnI rf) mo hn a b x y ha hb
  have h2:=run158s es (nnI rf) mo hn a b x y ha hb
  have h3:=run158w es rf mo hn hrl hrf a b x y ha hb
  generalize e1 : poB a b x y = v1 at *
  generalize e2 : syncR a b x y = v2 at *
  generalize e3 : swB es rf a b x y = v3 at *
  have hk3 : k = 0 ∨ k = 1 ∨ k = 2:=by omega
  rcases hk3 with rfl | rfl | rfl
  ·simp [nmB] at hs
   simp [hs,nmB,h1,e1,Ix]
  ·simp [nmB,e1] at hs
   cases v1
   ·simp [hs,nmB,h2,e1,e2,Ix]
   ·simp [hs,nmB,e1,e2,Ix]
  ·simp [nmB,e1,e2] at hs
   cases v1
   ·cases v2
    ·simp [hs,nmB,h3,e1,e2,e3,Ix]
    ·simp [hs,nmB,e1,e2,e3,Ix]
   ·simp [hs,nmB,e1,e2,e3,Ix]
 ·simp at hs
  simp [hs]
end Go.Am.E

set_option maxRecDepth 10000
set_option maxHeartbeats 4000000
namespace Go.Am.E
open Go.Proofs Go.Rc Go.Rg
attribute [local simp] Evt.cells
def uB (es : List Evt) (rf : List Int) (a b : Nat) : Bool:=match es[a]?,es[b]? with
 | some x,some y => nmB es rf a b x y 3
 | _,_ => false
theorem in115 (es : List Evt) (rf : List Int) (mo : List Dat) (hn : es.length ≤ 64) (hrl : rf.length = es.length) (hrf : ∀ w,nxt rf w < es.length) (a : Nat) (ha : a < es.length) (st : St)
  (hs : hd [1,2,4,5,6,7] [2,4,5] st = some ⟨E115 [(6,.dat (Nn a)),(7,.dat (Nn 0))],S115 es rf mo (prA es.length (uB es rf) a)⟩) :
  Ev (zva7 (exec K l115_1) st) fun q => q.1 = .exit 2 ∧ hd [1,2,4,5,6] [] q.2 = some ⟨E115 [(6,.dat (Nn a))],S115 es rf mo (prA es.length (uB es rf) (a + 1))⟩:=by
 refine znd7 (live:=[1,2,4,5,6,7]) (drop:=[2,4,5]) es.length (fun b => ⟨E115 [(6,.dat (Nn a)),(7,.dat (Nn b))],S115 es rf mo (prB es.length (uB es rf) a b)⟩) (fun _ q => q.1 = .exit 2 ∧ hd [1,2,4,5,6] [] q.2 = some ⟨E115 [(6,.dat (Nn a))],S115 es rf mo (prA es.length (uB es rf) (a + 1))⟩)
  (fun b st hb hs => ?_) (fun st hs => ?_) es.length 0 st (by omega) (by rw [prB_zero]; exact hs)
 ·have hlt : (b : Int) < es.length:=by omega
  have ix : Ix b:=by unfold Ix; omega
  have hle:=prB_le es.length (uB es rf) a b ha (by omega)
  have hnn : es.length * es.length ≤ 64 * 64:=Nat.mul_le_mul hn hn
  have hsu:=zfe7 es.length (uB es rf) a b
  have hxa:=List.getElem?_eq_getElem ha
  have hyb:=List.getElem?_eq_getElem hb
  generalize es[a] = x at hxa
  generalize es[b] = y at hyb
  have hu : uB es rf a b = nmB es rf a b x y 3:=by simp [uB,hxa,hyb]
  have hin:=ina115 es rf mo hn hrl hrf a b x y hxa hyb (prB es.length (uB es rf) a b)
  rw [← hu] at hin
  generalize prB es.length (uB es rf) a b = L at *
  generalize uB es rf a b = v at *
  have hr : (L.length + 1) * 17 ≤ 1099511627776:=by omega
  cases L with
  | nil =>
   simp [hs,hlt,zla7,zta7]
   simp only [zca7]
   refine (hin _ (by simp [zla7,zta7])).mono ?_
   rintro ⟨_,st⟩ ⟨rfl,hs⟩
   dsimp only at hs
   cases v with
   | false =>
    simp at hsu
    simp [hs,ix,zla7,zta7,hsu]
   | true =>
    simp at hsu
    simp [hs,ix,zla7,zta7,zda7,zfa7,hsu,hr]
  | cons p L =>
   simp at hr
   simp [hs,hlt,zda7,zfa7]
   simp only [zca7]
   refine (hin _ (by simp [zda7,zfa7])).mono ?_
   rintro ⟨_,st⟩ ⟨rfl,hs⟩
   dsimp only at hs
   cases v with
   | false =>
    simp at hsu
    simp [hs,ix,zda7,zfa7,hsu]
   | true =>
    simp at hsu
    simp [hs,ix,zda7,zfa7,hsu,hr]
 ·rw [prB_n] at hs
  generalize prA es.length (uB es rf) (a + 1) = L at *
  cases L with
  | nil => simp [hs,zla7,zta7]
  | cons p L => simp [hs,zda7,zfa7]
theorem run115 (es : List Evt) (rf : List Int) (mo : List Dat) (hn : es.length ≤ 64) (hrl : rf.length = es.length) (hrf : ∀ w,nxt rf w < es.length) :
  K 115 [.dat (GD es (nnI rf) mo),.dat (.str [112,115,119])] [] = some (.dat (Rel es.length (prs es.length (uB es rf))),[]):=ce rfl (by
 simp
 simp only [zca7]
 refine (znd7 (live:=[1,2,4,5,6]) (drop:=[2,4,5]) es.length (fun a => ⟨E115 [(6,.dat (Nn a))],S115 es rf mo (prA es.length (uB es rf) a)⟩) (fun _ q => q.1 = .exit 0 ∧ hd [4,5] [] q.2 = some ⟨[(4,.ref ((5,0),0,0) 0),(5,.ref ((6,0),0,0) 0)],S115 es rf mo (prs es.length (uB es rf))⟩)
  (fun a st ha hs => ?_) (fun st hs => ?_) es.length 0 _ (by omega) (by simp [zjf7,zla7,zta7])).mono ?_
 ·have hlt : (a : Int) < es.length:=by omega
  have ix : Ix a:=by unfold Ix; omega
  have hin:=in115 es rf mo hn hrl hrf a ha
  generalize prA es.length (uB es rf) a = L at *
  generalize hL' : prA es.length (uB es rf) (a + 1) = L' at *
  cases L with
  | nil =>
   simp [hs,hlt,zla7,zta7]
   simp only [zca7]
   refine (hin _ (by simp [zla7,zta7])).mono ?_
   rintro ⟨_,st⟩ ⟨rfl,hs⟩
   dsimp only at hs
   cases L' with
   | nil => simp [hs,ix,zla7,zta7,hL']
   | cons p L' => simp [hs,ix,zda7,zfa7,hL']
  | cons p L =>
   simp [hs,hlt,zda7,zfa7]
   simp only [zca7]
   refine (hin _ (by simp [zda7,zfa7])).mono ?_
   rintro ⟨_,st⟩ ⟨rfl,hs⟩
   dsimp only at hs
   cases L' with
   | nil => simp [hs,ix,zla7,zta7,hL']
   | cons p L' => simp [hs,ix,zda7,zfa7,hL']
 ·rw [prA_n] at hs
  generalize prs es.length (uB es rf) = L at *
  cases L with
  | nil => simp [hs,zla7,zta7]
  | cons p L => simp [hs,zda7,zfa7]
 ·rintro ⟨_,st⟩ ⟨rfl,hs⟩
  dsimp only at hs
  generalize prs es.length (uB es rf) = L at *
  cases L with
  | nil => simp [hs,zla7,zta7]
  | cons p L => simp [hs,zda7,zfa7])
end Go.Am.E

set_option maxRecDepth 10000
set_option maxHeartbeats 4000000
namespace Go.Am.E
open Go.Proofs Go.Rc Go.Rg
attribute [local simp] Evt.cells
def hbR (es : List Evt) (rf : List Int) : List (Nat × Nat):=clo es.length (prs es.length (uB es rf))
theorem run65 (es : List Evt) (rf : List Int) (mo : List Dat) (hn : es.length ≤ 64) (hrl : rf.length = es.length) (hrf : ∀ w,nxt rf w < es.length) (hv : K 114 [.dat (GD es (nnI rf) mo)] [] = some (.dat (.bool true),[])) :
  K 65 [.dat (GD es (nnI rf) mo),.dat (.str [112,115,119])] [] = some (.tup [.dat (Rel es.length (prs es.length (uB es rf))),.dat (Nn 0)],[]):=ce rfl (by
 have h:=run115 es rf mo hn hrl hrf
 generalize prs es.length (uB es rf) = L at *
 simp [h,hv])
theorem run65n (es : List Evt) (rf mo : List Dat) (hv : K 114 [.dat (GD es rf mo)] [] = some (.dat (.bool false),[])) :
  K 65 [.dat (GD es rf mo),.dat (.str [112,115,119])] [] = some (.tup [.dat (Rel 0 []),.dat (Nn 1)],[]):=ce rfl (by
 simp [hv])
theorem run37 (es : List Evt) (rf : List Int) (mo : List Dat) (hn : es.length ≤ 64) (hrl : rf.length = es.length) (hrf : ∀ w,nxt rf w < es.length) (hv : K 114 [.dat (GD es (nnI rf) mo)] [] = some (.dat (.bool true),[])) :
  K 37 [.dat (GD es (nnI rf) mo)] [] = some (.tup [.dat (Rel es.length (hbR es rf)),.dat (Nn 0)],[]):=ce rfl (by
 have h:=run65 es rf mo hn hrl hrf hv
 have h2:=run66 (prs_in (P:=uB es rf) hn)
 rw [← clo,← hbR] at h2
 generalize prs es.length (uB es rf) = L at *
 generalize hbR es rf = L2 at *
 simp [h,h2])
theorem run37n (es : List Evt) (rf mo : List Dat) (hv : K 114 [.dat (GD es rf mo)] [] = some (.dat (.bool false),[])) :
  K 37 [.dat (GD es rf mo)] [] = some (.tup [.dat (Rel 0 []),.dat (Nn 1)],[]):=ce rfl (by
 have h:=run65n es rf mo hv
 simp only [Rel,List.map_nil] at h
 simp [h])
end Go.Am.E

set_option maxRecDepth 10000
set_option maxHeartbeats 4000000
namespace Go.Am.E
open Go.Proofs Go.Rc Go.Rg
attribute [local simp] Evt.cells
def reP (cf : Evt → Evt → Bool) (es : List Evt) (hb : List (Nat × Nat)) (a b : Nat) : Bool:=match es[a]?,es[b]? with
 | some x,some y => decide (a < b) && (cf x y && (!decide ((a,b) ∈ hb) && !decide ((b,a) ∈ hb)))
 | _,_ => false
theorem reP_low {cf : Evt → Evt → Bool} {es : List Evt} {hb : List (Nat × Nat)} {a b : Nat} (h : b ≤ a) : reP cf es hb a b = false:=by
 unfold reP
 split
 ·have : ¬ a < b:=by omega
  simp [this]
 ·rfl
theorem prB_low {n a : Nat} {P : Nat → Nat → Bool} (hP : ∀ b,b ≤ a → P a b = false) : ∀ b,b ≤ a + 1 → prB n P a b = prA n P a:=by
 intro b
 induction b with
 | zero => intro _; exact prB_zero _ _ _
 | succ b ih =>
  intro h
  rw [zfe7,if_neg,ih (by omega)]
  simp [hP b (by omega)]
abbrev E17 (L : List (Nat × Nat)) (r : Env) : Env:=(1,.ref ((2,0),0,0) 0) :: (4,.ref ((5,0),0,0) 0) :: (6,.rsl ((7,0),0,0) L.length 2 0 L.length) :: r
abbrev S17 (es : List Evt) (rf mo : List Dat) (hb L : List (Nat × Nat)) : zgb7:=[((2,0),GO es rf mo),((5,0),.plain (.box [.dat (Nn es.length),.dat (.sl (hb.map PD))])),((7,0),.plain (.arr 2 L.length false (L.map PD)))]
theorem in17 (es : List Evt) (rf mo : List Dat) (hb : List (Nat × Nat)) (hh : inN es.length hb) (a : Nat) (ha : a < es.length) (st : St)
  (hs : hd [1,4,6,7,8] [1,4,6] st = some ⟨E17 (prA es.length (reP cfR es hb) a) [(7,.dat (Nn a)),(8,.dat (Nn (a + 1 : Nat)))],S17 es rf mo hb (prA es.length (reP cfR es hb) a)⟩) :
  Ev (zva7 (exec K l17_0) st) fun q => q.1 = .exit 2 ∧ hd [1,4,6,7] [] q.2 = some ⟨E17 (prA es.length (reP cfR es hb) (a + 1)) [(7,.dat (Nn a))],S17 es rf mo hb (prA es.length (reP cfR es hb) (a + 1))⟩:=by
 refine ev_from (live:=[1,4,6,7,8]) (drop:=[1,4,6]) (a + 1) es.length (fun b => ⟨E17 (prB es.length (reP cfR es hb) a b) [(7,.dat (Nn a)),(8,.dat (Nn b))],S17 es rf mo hb (prB es.length (reP cfR es hb) a b)⟩) (fun _ q => q.1 = .exit 2 ∧ hd [1,4,6,7] [] q.2 = some ⟨E17 (prA es.length (reP cfR es hb) (a + 1)) [(7,.dat (Nn a))],S17 es rf mo hb (prA es.length (reP cfR es hb) (a + 1))⟩)
  (fun b st hm hb' hs => ?_) (fun st hs => ?_) (es.length - (a + 1)) (a + 1) st (Nat.le_refl _) (by omega) (by rw [prB_low (fun b h => reP_low h) _ (Nat.le_refl _)]; exact hs)
 ·have hn:=hh.1
  have hlt : (b : Int) < es.length:=by omega
  have ix : Ix b:=by unfold Ix; omega
  have hle:=prB_le es.length (reP cfR es hb) a b ha (by omega)
  have hnn : es.length * es.length ≤ 64 * 64:=Nat.mul_le_mul hn hn
  have hsu:=zfe7 es.length (reP cfR es hb) a b
  have hxa:=List.getElem?_eq_getElem ha
  have hyb:=List.getElem?_eq_getElem hb'
  generalize es[a] = x at hxa
  generalize es[b] = y at hyb
  obtain ⟨x2,x3,x4⟩:=zkc7 hxa
  obtain ⟨y2,y3,y4⟩:=zkc7 hyb
  have hu : reP cfR es hb a b = (cfR x y && (!decide ((a,b) ∈ hb) && !decide ((b,a) ∈ hb))):=by
   have : a < b:=by omega
   simp [reP,hxa,hyb,this]
  rw [hu] at hsu
  have h1:=run38 x y
  have h2:=run39 hh a b
  have h3:=run39 hh b a
  generalize prB es.length (reP cfR es hb) a b = L at *
  generalize cfR x y = c1 at *
  generalize decide ((a,b) ∈ hb) = c2 at *
  generalize decide ((b,a) ∈ hb) = c3 at *
  have hr : (L.length + 1) * 17 ≤ 1099511627776:=by omega
  simp only [Evt.dat,Evt.cells] at h1
  cases c1
  ·simp at hsu
   simp [hs,hlt,ix,hsu,h1,hxa,hyb,x2,x3,x4,y2,y3,y4]
  ·cases c2
   ·cases c3
    ·simp at hsu
     simp [hs,hlt,ix,hsu,h1,h2,h3,hxa,hyb,x2,x3,x4,y2,y3,y4,hr]
    ·simp at hsu
     simp [hs,hlt,ix,hsu,h1,h2,h3,hxa,hyb,x2,x3,x4,y2,y3,y4]
   ·simp at hsu
    simp [hs,hlt,ix,hsu,h1,h2,hxa,hyb,x2,x3,x4,y2,y3,y4]
 ·rw [prB_n] at hs
  generalize prA es.length (reP cfR es hb) (a + 1) = L at *
  simp [hs]
theorem run17 (es : List Evt) (rf mo : List Dat) (hb : List (Nat × Nat)) (hh : inN es.length hb) (h37 : K 37 [.dat (GD es rf mo)] [] = some (.tup [.dat (Rel es.length hb),.dat (Nn 0)],[])) :
  K 17 [.dat (GD es rf mo)] [] = some (.tup [.dat (.sl ((prs es.length (reP cfR es hb)).map PD)),.dat (Nn 0)],[]):=ce rfl (by
 have hn:=hh.1
 simp [h37]
 simp only [zca7]
 refine (znd7 (live:=[1,4,6,7]) (drop:=[1,4,6]) es.length (fun a => ⟨E17 (prA es.length (reP cfR es hb) a) [(7,.dat (Nn a))],S17 es rf mo hb (prA es.length (reP cfR es hb) a)⟩) (fun _ q => q.1 = .exit 0 ∧ hd [6] [] q.2 = some ⟨[(6,.rsl ((7,0),0,0) (prs es.length (reP cfR es hb)).length 2 0 (prs es.length (reP cfR es hb)).length)],S17 es rf mo hb (prs es.length (reP cfR es hb))⟩)
  (fun a st ha hs => ?_) (fun st hs => ?_) es.length 0 _ (by omega) (by simp [zjf7])).mono ?_
 ·have hlt : (a : Int) < es.length:=by omega
  have ix : Ix a:=by unfold Ix; omega
  have hin:=in17 es rf mo hb hh a ha
  generalize prA es.length (reP cfR es hb) a = L at *
  generalize hL' : prA es.length (reP cfR es hb) (a + 1) = L' at *
  simp [hs,hlt,ix]
  simp only [zca7]
  refine (hin _ (by simp)).mono ?_
  rintro ⟨_,st⟩ ⟨rfl,hs⟩
  dsimp only at hs
  simp [hs,ix,hL']
 ·rw [prA_n] at hs
  generalize prs es.length (reP cfR es hb) = L at *
  simp [hs]
 ·rintro ⟨_,st⟩ ⟨rfl,hs⟩
  dsimp only at hs
  generalize prs es.length (reP cfR es hb) = L at *
  simp [hs])
theorem run17n (es : List Evt) (rf mo : List Dat) (h37 : K 37 [.dat (GD es rf mo)] [] = some (.tup [.dat (Rel 0 []),.dat (Nn 1)],[])) :
  K 17 [.dat (GD es rf mo)] [] = some (.tup [.dat (.sl []),.dat (Nn 1)],[]):=ce rfl (by
 simp only [Rel,List.map_nil] at h37
 simp [h37])
end Go.Am.E

set_option maxRecDepth 10000
set_option maxHeartbeats 4000000
namespace Go.Am.E
open Go.Proofs Go.Rc Go.Rg
theorem run18 (L : List (Nat × Nat)) (hl : L.length < 1000000) : K 18 [.dat (.sl (L.map PD)),.dat (.sl (L.map PD))] [] = some (.dat (.bool true),[]):=ce rfl (by
 simp
 simp only [zca7]
 refine (zwc7 (live:=[0,1,5]) (drop:=[]) L (by omega) (fun k => ⟨[(0,.dat (.sl (L.map PD))),(1,.dat (.sl (L.map PD))),(5,.dat (Nn k))],[]⟩)
  (fun _ q => q.1 = .exit 0 ∧ hd [] [] q.2 = some ⟨[],[]⟩) (fun i p s g1 g2 g3 ix hs => ?_) (fun s hs => ?_) _ (by simp)).mono ?_
 ·obtain ⟨a,b⟩:=p
  simp [hs,g1,g2,g3,ix,zea7,zxa7]
 ·simp [hs]
 ·rintro ⟨_,s⟩ ⟨rfl,hs⟩
  dsimp only at hs
  simp [hs])
end Go.Am.E

set_option maxRecDepth 10000
set_option maxHeartbeats 4000000
namespace Go.Am.E
open Go.Proofs Go.Rc Go.Rg
attribute [local simp] Evt.cells
abbrev R16 (es : List Evt) (a b : Nat) : Env:=[(7,.dat (Nn a)),(8,.ref ((9,0),0,0) 0),(9,.dat (Nn b)),(19,.dat (.sl (es.map Evt.dat))),(20,.dat (Nn es.length)),(21,.dat (Nn a))]
abbrev S16 (es : List Evt) (rf mo : List Dat) (hb : List (Nat × Nat)) (x : Evt) (L : List (Nat × Nat)) : zgb7:=[((2,0),GO es rf mo),((5,0),.plain (.box [.dat (Nn es.length),.dat (.sl (hb.map PD))])),((7,0),.plain (.arr 2 L.length false (L.map PD))),((9,0),XB x)]
theorem in16 (es : List Evt) (rf mo : List Dat) (hb : List (Nat × Nat)) (hh : inN es.length hb) (a : Nat) (ha : a < es.length) (x : Evt) (hxa : es[a]? = some x) (st : St)
  (hs : hd [1,4,6,7,8,9,19,20,21] [1,4,6,8,19] st = some ⟨E17 (prA es.length (reP cfP es hb) a) (R16 es a (a + 1)),S16 es rf mo hb x (prA es.length (reP cfP es hb) a)⟩) :
  Ev (zva7 (exec K l16_0) st) fun q => q.1 = .exit 2 ∧ hd [1,4,6,19,20,21] [] q.2 = some ⟨E17 (prA es.length (reP cfP es hb) (a + 1)) [(19,.dat (.sl (es.map Evt.dat))),(20,.dat (Nn es.length)),(21,.dat (Nn a))],S16 es rf mo hb x (prA es.length (reP cfP es hb) (a + 1))⟩:=by
 refine ev_from (live:=[1,4,6,7,8,9,19,20,21]) (drop:=[1,4,6,8,19]) (a + 1) es.length (fun b => ⟨E17 (prB es.length (reP cfP es hb) a b) (R16 es a b),S16 es rf mo hb x (prB es.length (reP cfP es hb) a b)⟩) (fun _ q => q.1 = .exit 2 ∧ hd [1,4,6,19,20,21] [] q.2 = some ⟨E17 (prA es.length (reP cfP es hb) (a + 1)) [(19,.dat (.sl (es.map Evt.dat))),(20,.dat (Nn es.length)),(21,.dat (Nn a))],S16 es rf mo hb x (prA es.length (reP cfP es hb) (a + 1))⟩)
  (fun b st hm hb' hs => ?_) (fun st hs => ?_) (es.length - (a + 1)) (a + 1) st (Nat.le_refl _) (by omega) (by rw [prB_low (fun b h => reP_low h) _ (Nat.le_refl _)]; exact hs)
 ·have hn:=hh.1
  have hlt : (b : Int) < es.length:=by omega
  have ix : Ix b:=by unfold Ix; omega
  have hle:=prB_le es.length (reP cfP es hb) a b ha (by omega)
  have hnn : es.length * es.length ≤ 64 * 64:=Nat.mul_le_mul hn hn
  have hsu:=zfe7 es.length (reP cfP es hb) a b
  have hyb:=List.getElem?_eq_getElem hb'
  generalize es[b] = y at hyb
  obtain ⟨x2,x3,x4⟩:=zkc7 hxa
  obtain ⟨y2,y3,y4⟩:=zkc7 hyb
  have hu : reP cfP es hb a b = (cfP x y && (!decide ((a,b) ∈ hb) && !decide ((b,a) ∈ hb))):=by
   have : a < b:=by omega
   simp [reP,hxa,hyb,this]
  rw [hu] at hsu
  have h1:=run35 x y
  have h2:=run36 hh a b
  have h3:=run36 hh b a
  generalize prB es.length (reP cfP es hb) a b = L at *
  generalize cfP x y = c1 at *
  generalize decide ((a,b) ∈ hb) = c2 at *
  generalize decide ((b,a) ∈ hb) = c3 at *
  have hr : (L.length + 1) * 17 ≤ 1099511627776:=by omega
  simp only [Evt.dat,Evt.cells] at h1
  cases c1
  ·simp at hsu
   simp [hs,hlt,ix,hsu,h1,hxa,hyb,x2,x3,x4,y2,y3,y4]
  ·cases c2
   ·cases c3
    ·simp at hsu
     simp [hs,hlt,ix,hsu,h1,h2,h3,hxa,hyb,x2,x3,x4,y2,y3,y4,hr]
    ·simp at hsu
     simp [hs,hlt,ix,hsu,h1,h2,h3,hxa,hyb,x2,x3,x4,y2,y3,y4]
   ·simp at hsu
    simp [hs,hlt,ix,hsu,h1,h2,hxa,hyb,x2,x3,x4,y2,y3,y4]
 ·rw [prB_n] at hs
  generalize prA es.length (reP cfP es hb) (a + 1) = L at *
  simp [hs]
end Go.Am.E

set_option maxRecDepth 10000
set_option maxHeartbeats 4000000
namespace Go.Am.E
open Go.Proofs Go.Rc Go.Rg
attribute [local simp] Evt.cells
theorem run16 (es : List Evt) (rf mo : List Dat) (hb : List (Nat × Nat)) (hh : inN es.length hb) (h34 : K 34 [.dat (GD es rf mo)] [] = some (.tup [.dat (Rel es.length hb),.dat (Nn 0)],[])) :
  K 16 [.dat (GD es rf mo)] [] = some (.tup [.dat (.sl ((prs es.length (reP cfP es hb)).map PD)),.dat (Nn 0)],[]):=ce rfl (by
 have hn:=hh.1
 simp [h34]
 simp only [zca7]
 refine (znd7 (live:=[1,4,6,19,20,21]) (drop:=[1,4,6,19]) es.length (fun a => ⟨E17 (prA es.length (reP cfP es hb) a) [(19,.dat (.sl (es.map Evt.dat))),(20,.dat (Nn es.length)),(21,.dat (Nn a))],S17 es rf mo hb (prA es.length (reP cfP es hb) a)⟩) (fun _ q => q.1 = .exit 0 ∧ hd [6] [] q.2 = some ⟨[(6,.rsl ((7,0),0,0) (prs es.length (reP cfP es hb)).length 2 0 (prs es.length (reP cfP es hb)).length)],S17 es rf mo hb (prs es.length (reP cfP es hb))⟩)
  (fun a st ha hs => ?_) (fun st hs => ?_) es.length 0 _ (by omega) (by simp [zjf7])).mono ?_
 ·have hlt : (a : Int) < es.length:=by omega
  have ix : Ix a:=by unfold Ix; omega
  have hxa:=List.getElem?_eq_getElem ha
  obtain ⟨x2,x3,x4⟩:=zkc7 hxa
  generalize es[a] = x at hxa x2
  have hin:=in16 es rf mo hb hh a ha x hxa
  generalize prA es.length (reP cfP es hb) a = L at *
  generalize hL' : prA es.length (reP cfP es hb) (a + 1) = L' at *
  simp [hs,hlt,ix,hxa,x2,x3,x4]
  simp only [zca7]
  refine (hin _ (by simp)).mono ?_
  rintro ⟨_,st⟩ ⟨rfl,hs⟩
  dsimp only at hs
  simp [hs,ix,hL']
 ·rw [prA_n] at hs
  generalize prs es.length (reP cfP es hb) = L at *
  simp [hs]
 ·rintro ⟨_,st⟩ ⟨rfl,hs⟩
  dsimp only at hs
  generalize prs es.length (reP cfP es hb) = L at *
  simp [hs])
theorem run16n (es : List Evt) (rf mo : List Dat) (h34 : K 34 [.dat (GD es rf mo)] [] = some (.tup [.dat (Rel 0 []),.dat (Nn 1)],[])) :
  K 16 [.dat (GD es rf mo)] [] = some (.tup [.dat (.sl []),.dat (Nn 1)],[]):=ce rfl (by
 simp only [Rel,List.map_nil] at h34
 simp [h34])
end Go.Am.E

set_option maxRecDepth 10000
set_option maxHeartbeats 4000000
namespace Go.Am.E
open Go.Proofs Go.Rc Go.Rg
attribute [local simp] Evt.cells
def numE (es : List Evt) (t : Int) (k : Nat) : Nat:=((es.take k).filter fun e => decide (e.ag = t)).length
theorem numE_le (es : List Evt) (t : Int) (k : Nat) : numE es t k ≤ k:=by
 unfold numE
 have h1:=List.length_filter_le (fun e : Evt => decide (e.ag = t)) (es.take k)
 have h2 : (es.take k).length ≤ k:=by simp; omega
 omega
theorem run180 (es : List Evt) (t : Int) (n : Nat) (hn : n ≤ es.length) (hl : es.length < 100000) : K 180 [.dat (.sl (es.map Evt.dat)),.dat (Nn n),.dat (Nn t)] [] = some (.dat (Nn (numE es t n)),[]):=ce rfl (by
 simp
 simp only [zca7]
 refine (znd7 (live:=[0,1,2,7,8]) (drop:=[]) n (fun k => ⟨[(0,.dat (.sl (es.map Evt.dat))),(1,.dat (Nn n)),(2,.dat (Nn t)),(7,.dat (Nn (numE es t k))),(8,.dat (Nn k))],[]⟩)
  (fun _ q => q.1 = .exit 0 ∧ hd [7] [] q.2 = some ⟨[(7,.dat (Nn (numE es t n)))],[]⟩) (fun k s hk hs => ?_) (fun s hs => ?_) n 0 _ (by omega) (by simp [numE])).mono ?_
 ·have hlt : (k : Int) < n:=by omega
  have ix : Ix k:=by unfold Ix; omega
  have hx:=List.getElem?_eq_getElem (l:=es) (i:=k) (by omega)
  generalize es[k] = x at hx
  obtain ⟨x2,x3,x4⟩:=zkc7 hx
  have hle:=numE_le es t k
  have ix2 : Ix (numE es t k):=by unfold Ix; omega
  have hsu : numE es t (k + 1) = if x.ag = t then numE es t k + 1 else numE es t k:=by
   simp only [numE,List.take_add_one,hx,Option.toList_some,List.filter_append,List.length_append]
   by_cases h : x.ag = t <;> simp [h]
  generalize numE es t k = c at *
  by_cases h : x.ag = t
  ·rw [if_pos h] at hsu
   simp [hs,hlt,ix,ix2,hx,x2,x3,x4,h,hsu]
  ·rw [if_neg h] at hsu
   simp [hs,hlt,ix,ix2,hx,x2,x3,x4,h,hsu]
 ·simp [hs]
 ·rintro ⟨_,s⟩ ⟨rfl,hs⟩
  dsimp only at hs
  simp [hs])
theorem wrap_ix {i n : Nat} (h : i < n) (hn : n ≤ 9223372036854775807) : IntKind.wrap .i64 ((i : Int) + 1) = i + 1:=wrap_i64_all (by omega) (by omega)
theorem run157 (l : List Int) (hl : l.length ≤ 9223372036854775807) (v : Int) : ∃ i : Int,(0 ≤ i ↔ v ∈ l) ∧ K 157 [.dat (.sl (nnI l)),.dat (Nn v)] [] = some (.dat (Nn i),[]):=by
 have key : Ev (zkd7 K fn157 [.dat (.sl (nnI l)),.dat (Nn v)] []) fun r => ∃ i : Int,(0 ≤ i ↔ v ∈ l) ∧ r = (.dat (Nn i),[]):=by
  simp
  simp only [zca7]
  refine (znd7 (live:=[0,1,5]) (drop:=[]) l.length (fun k => ⟨[(0,.dat (.sl (nnI l))),(1,.dat (Nn v)),(5,.dat (Nn k))],[]⟩)
   (fun k q => (q.1 = .exit 0 ∧ v ∉ l.drop k ∧ hd [] [] q.2 = some ⟨[],[]⟩) ∨ (q.1 = .ret ∧ ∃ i : Nat,v ∈ l.drop k ∧ endK [.t 4] false 0 q = some (.dat (Nn i),[]))) (fun i s hi hs => ?_) (fun s hs => ?_) l.length 0 _ (by omega) (by simp)).mono ?_
  ·have g1:=List.getElem?_eq_getElem hi
   generalize l[i] = p at g1
   have g2 : ∀ h : i < l.length,l[i] = p:=fun _ => (List.getElem?_eq_some_iff.1 g1).2
   have g3 : (i : Int) < l.length:=by omega
   have ix:=wrap_ix hi hl
   have hdr:=drop_get g1
   by_cases h1 : p = v
   ·subst h1
    simp [hs,g1,g2,g3,ix,hdr]
   ·have h2 : ¬ v = p:=fun e => h1 e.symm
    simp [hs,g1,g2,g3,ix,h1,h2,hdr]
  ·simp [hs]
  ·rintro ⟨y,s⟩ (⟨rfl,hq,hh⟩ | ⟨rfl,i,hm,hq⟩)
   ·rw [List.drop_zero] at hq
    dsimp only at hh
    simp [hq,hh]
   ·rw [List.drop_zero] at hm
    simp [hq,hm]
 obtain ⟨r,hr,i,h1,rfl⟩:=key
 exact ⟨i,h1,ce (fn:=fn157) rfl ⟨_,hr,rfl⟩⟩
end Go.Am.E

set_option maxRecDepth 10000
set_option maxHeartbeats 4000000
namespace Go.Am.E
open Go.Proofs Go.Rc Go.Rg
attribute [local simp] Evt.cells
def isW (es : List Evt) (x : Evt) (w : Nat) : Bool:=match es[w]? with
 | some y => wrE y && decide (y.obj = x.obj)
 | none => false
def srcB (es : List Evt) (i : Nat) (x : Evt) (w : Int) : Bool :=
 if rdE x = true then (if 0 ≤ w ∧ w < es.length then (!decide (w = i) && isW es x w.toNat) else decide (w = -1)) else decide (w = -2)
theorem run155 (es : List Evt) (rf : List Int) (mo : List Dat) (hn : es.length ≤ 64) (hrl : rf.length = es.length) (i : Nat) (x : Evt) (hx : es[i]? = some x) :
  K 155 [.dat (GD es (nnI rf) mo),.dat (Nn i)] [] = some (.dat (.bool (srcB es i x (nxt rf i))),[]):=ce rfl (by
 obtain ⟨x2,x3,x4⟩:=zkc7 hx
 have hr1 : i < rf.length:=by omega
 have hr3 : (i : Int) < rf.length:=by omega
 have hr2 : rf[i]'hr1 = nxt rf i:=by simp [nxt,hr1]
 have hr4 : rf[i]? = some (nxt rf i):=by rw [List.getElem?_eq_getElem hr1,hr2]
 have h1:=run181 x
 unfold srcB
 generalize nxt rf i = w at *
 generalize rdE x = r at *
 cases r with
 | false =>
  obtain ⟨ag,idx,kind,obj,mux,ent,ord,rd,wr⟩:=x
  simp only [Evt.dat,Evt.cells] at h1
  simp [hx,x2,x3,x4,hr1,hr2,hr3,hr4,h1,YID,pairK,apartC,chgOf,slim,sameAt,TObj.same,Obj.same,sameAll,AVal.same,Dat.eqv,zpc7,meets,updT]
 | true =>
  by_cases h0 : w < 0
  ·have h0' : ¬ 0 ≤ w:=by omega
   obtain ⟨ag,idx,kind,obj,mux,ent,ord,rd,wr⟩:=x
   simp only [Evt.dat,Evt.cells] at h1
   simp [hx,x2,x3,x4,hr1,hr2,hr3,hr4,h1,h0,h0',YID,pairK,apartC,chgOf,slim,sameAt,TObj.same,Obj.same,sameAll,AVal.same,Dat.eqv,zpc7,meets,updT]
  ·obtain ⟨wn,rfl⟩:=Int.eq_ofNat_of_zero_le (show 0 ≤ w by omega)
   by_cases hw : wn < es.length
   ·have hz:=List.getElem?_eq_getElem hw
    generalize es[wn] = z at hz
    obtain ⟨z2,z3,z4⟩:=zkc7 hz
    have h2:=run156 z
    have hw1 : ¬ (es.length : Int) ≤ wn:=by omega
    rw [if_pos (by simp),if_pos (by omega)]
    simp only [isW,Int.toNat_natCast,hz]
    generalize wrE z = v at *
    obtain ⟨ag,idx,kind,obj,mux,ent,ord,rd,wr⟩:=x
    obtain ⟨ag',idx',kind',obj',mux',ent',ord',rd',wr'⟩:=z
    simp only [Evt.dat,Evt.cells] at h1 h2
    by_cases e : wn = i
    ·subst e
     simp [hx,x2,x3,x4,hr1,hr2,hr3,hr4,h1,h0,hw1,YID,pairK,apartC,chgOf,slim,sameAt,TObj.same,Obj.same,sameAll,AVal.same,Dat.eqv,zpc7,meets,updT]
    ·have e' : ¬ (wn : Int) = i:=by omega
     cases v
     ·simp [hx,x2,x3,x4,hz,z2,z3,z4,hr1,hr2,hr3,hr4,h1,h2,h0,hw1,e,e',YID,pairK,apartC,chgOf,slim,sameAt,TObj.same,Obj.same,sameAll,AVal.same,Dat.eqv,zpc7,meets,updT]
     ·simp [hx,x2,x3,x4,hz,z2,z3,z4,hr1,hr2,hr3,hr4,h1,h2,h0,hw1,e,e',YID,pairK,apartC,chgOf,slim,sameAt,TObj.same,Obj.same,sameAll,AVal.same,Dat.eqv,zpc7,meets,updT]
   ·have hw1 : (es.length : Int) ≤ wn:=by omega
    have hw2 : ¬ (wn : Int) < es.length:=by omega
    have hw3 : ¬ (wn : Int) = -1:=by omega
    obtain ⟨ag,idx,kind,obj,mux,ent,ord,rd,wr⟩:=x
    simp only [Evt.dat,Evt.cells] at h1
    simp [hx,x2,x3,x4,hr1,hr2,hr3,hr4,h1,h0,hw,hw1,hw2,hw3,YID,pairK,apartC,chgOf,slim,sameAt,TObj.same,Obj.same,sameAll,AVal.same,Dat.eqv,zpc7,meets,updT])
end Go.Am.E

set_option maxRecDepth 10000
set_option maxHeartbeats 4000000
namespace Go.Am.E
open Go.Proofs Go.Rc Go.Rg
attribute [local simp] Evt.cells
def allI {α : Type} (f : Nat → α → Bool) : List α → Nat → Bool
 | [],_ => true
 | x :: r,i => f i x && allI f r (i + 1)
theorem zcf7 {α : Type} {f : Nat → α → Bool} {l : List α} {i : Nat} {x : α} (h : l[i]? = some x) : allI f (l.drop i) i = (f i x && allI f (l.drop (i + 1)) (i + 1)):=by rw [drop_get h]; rfl
theorem allI_iff {α : Type} {f : Nat → α → Bool} : ∀ {l : List α} {k : Nat},allI f l k = true ↔ ∀ i x,l[i]? = some x → f (k + i) x = true
 | [],k => by simp [allI]
 | y :: l,k => by
  rw [allI,Bool.and_eq_true,allI_iff]
  constructor
  ·rintro ⟨h1,h2⟩ i x hx
   cases i with
   | zero => simp at hx; subst hx; exact h1
   | succ i =>
    have:=h2 i x (by simpa using hx)
    rwa [show k + 1 + i = k + (i + 1) from by omega] at this
  ·intro h
   refine ⟨h 0 y (by simp),fun i x hx => ?_⟩
   have:=h (i + 1) x (by simpa using hx)
   rwa [show k + (i + 1) = k + 1 + i from by omega] at this
def bQ (E R : AEx × St → Prop) : Bool → AEx × St → Prop
 | true => E
 | false => R
@[simp] theorem bQ_t (E R : AEx × St → Prop) (q : AEx × St) : bQ E R true q = E q:=rfl
@[simp] theorem bQ_f (E R : AEx × St → Prop) (q : AEx × St) : bQ E R false q = R q:=rfl
def evB (es : List Evt) (m : Nat) (i : Nat) (x : Evt) : Bool :=
 vld x && (!decide (x.kind = 3) && (!decide (x.kind = 4) && (decide (x.ent = -1) && (decide (x.idx = numE es x.ag i) && !((rdE x || wrE x) && decide ((m : Int) ≤ x.obj))))))
theorem evB_eq (es : List Evt) (m i : Nat) (x : Evt) : evB es m i x = (vld x && (!decide (x.kind = 3) && (!decide (x.kind = 4) && (decide (x.ent = -1) && (decide (x.idx = numE es x.ag i) && !((rdE x || wrE x) && decide ((m : Int) ≤ x.obj))))))):=rfl
def RQ (m : Nat) (q : AEx × St) : Prop:=q.1 = .ret ∧ endK [.t m] false 0 q = some (.dat (.bool false),[])
@[simp] theorem RQ_eq (m : Nat) (q : AEx × St) : RQ m q = (q.1 = .ret ∧ endK [.t m] false 0 q = some (.dat (.bool false),[])):=rfl
theorem run154 (es : List Evt) (rf mo : List Dat) (hn : es.length ≤ 64) (hm : mo.length < 1000) :
  K 154 [.dat (GD es rf mo)] [] = some (.dat (.bool (allI (evB es mo.length) es 0)),[]):=ce rfl (by
 simp
 simp only [zca7]
 refine (zwc7 (live:=[1,3]) (drop:=[1]) es (by omega) (fun k => ⟨[(1,.ref ((2,0),0,0) 0),(3,.dat (Nn k))],[((2,0),GO es rf mo)]⟩)
  (fun k => bQ (fun q => q.1 = .exit 0 ∧ hd [] [] q.2 = some ⟨[],[((2,0),GO es rf mo)]⟩) (RQ 2) (allI (evB es mo.length) (es.drop k) k)) (fun i x s g1 g2 g3 ix hs => ?_) (fun s hs => ?_) _ (by simp)).mono ?_
 ·have hdr:=zcf7 (f:=evB es mo.length) g1
  have hi:=(zkc7 g1).2.2
  have h1:=run77 x
  have h2:=run180 es x.ag i (by omega) (by omega)
  have h3:=run181 x
  have h4:=run156 x
  have hev:=evB_eq es mo.length i x
  generalize vld x = v at *
  generalize rdE x = r at *
  generalize wrE x = w at *
  generalize numE es x.ag i = c at *
  obtain ⟨ag,idx,kind,obj,mux,ent,ord,rd,wr⟩:=x
  simp only [Evt.dat,Evt.cells] at h1 h2 h3 h4
  dsimp only at hev
  cases v with
  | false => simp at hev; simp [hs,hdr,hev,g1,g2,g3,ix,h1]
  | true =>
   by_cases e3 : kind = 3
   ·subst e3; simp at hev; simp [hs,hdr,hev,g1,g2,g3,ix,h1]
   by_cases e4 : kind = 4
   ·subst e4; simp at hev; simp [hs,hdr,hev,g1,g2,g3,ix,h1]
   by_cases e5 : ent = -1
   ·subst e5
    by_cases e6 : idx = c
    ·subst e6
     cases r with
     | true =>
      by_cases e7 : (mo.length : Int) ≤ obj
      ·simp [e3,e4,e7] at hev; simp [hs,hdr,hev,g1,g2,g3,ix,h1,h2,h3,h4,e3,e4,e7]
      ·simp [e3,e4,e7] at hev; simp [hs,hdr,hev,g1,g2,g3,ix,h1,h2,h3,h4,e3,e4,e7]
     | false =>
      cases w with
      | true =>
       by_cases e7 : (mo.length : Int) ≤ obj
       ·simp [e3,e4,e7] at hev; simp [hs,hdr,hev,g1,g2,g3,ix,h1,h2,h3,h4,e3,e4,e7]
       ·simp [e3,e4,e7] at hev; simp [hs,hdr,hev,g1,g2,g3,ix,h1,h2,h3,h4,e3,e4,e7]
      | false =>
       simp [e3,e4] at hev; simp [hs,hdr,hev,g1,g2,g3,ix,h1,h2,h3,h4,e3,e4]
    ·simp [e3,e4,e6] at hev; simp [hs,hdr,hev,g1,g2,g3,ix,h1,h2,h3,h4,e3,e4,e6]
   ·simp [e3,e4,e5] at hev; simp [hs,hdr,hev,g1,g2,g3,ix,h1,h2,h3,h4,e3,e4,e5]
 ·simp [hs,allI]
 ·rw [List.drop_zero]
  generalize allI (evB es mo.length) es 0 = B
  rintro ⟨y,s⟩ hq
  cases B with
  | false =>
   obtain ⟨rfl,hq⟩:=hq
   simp [hq]
  | true =>
   obtain ⟨rfl,hq⟩:=hq
   dsimp only at hq
   simp [hq])
end Go.Am.E

namespace Go.Rg
theorem perm_of {α : Type} [BEq α] [LawfulBEq α] : ∀ {l1 l2 : List α},l1.Nodup → (∀ x ∈ l1,x ∈ l2) → l2.length ≤ l1.length → l1.Perm l2
 | [],l2,_,_,h => by
  have : l2 = []:=List.length_eq_zero_iff.1 (by simpa using h)
  rw [this]
 | x :: l1,l2,hn,hs,hl => by
  have hx:=hs x (by simp)
  rw [List.nodup_cons] at hn
  have hp:=List.perm_cons_erase hx
  have hlen:=hp.length_eq
  refine List.Perm.trans (List.Perm.cons x (perm_of hn.2 (fun y hy => ?_) ?_)) hp.symm
  ·have hyx : y ≠ x:=fun e => hn.1 (e ▸ hy)
   exact (List.mem_erase_of_ne hyx).2 (hs y (by simp [hy]))
  ·simp at hlen hl; omega
theorem sub_len {α : Type} [BEq α] [LawfulBEq α] : ∀ {l1 l2 : List α},l1.Nodup → (∀ x ∈ l1,x ∈ l2) → l1.length ≤ l2.length
 | [],l2,_,_ => by simp
 | x :: l1,l2,hn,hs => by
  have hx:=hs x (by simp)
  rw [List.nodup_cons] at hn
  have hlen:=(List.perm_cons_erase hx).length_eq
  have ih:=sub_len (l2:=l2.erase x) hn.2 (fun y hy => by
   have hyx : y ≠ x:=fun e => hn.1 (e ▸ hy)
   exact (List.mem_erase_of_ne hyx).2 (hs y (by simp [hy])))
  simp at hlen ⊢; omega
section
variable (W : Nat → Bool) (ob : Nat → Int) (n : Nat)
def wrs : List Int:=((List.range n).filter W).map fun (i : Nat) => (i : Int)
def wrsX (x : Nat) : List Int:=((List.range n).filter fun i => W i && decide (ob i = x)).map fun (i : Nat) => (i : Int)
def okL (x : Nat) (seen : List Int) : List Int → Option (List Int)
 | [] => some seen
 | i :: l => if i < 0 ∨ (n : Int) ≤ i ∨ i ∈ seen ∨ W i.toNat = false ∨ ob i.toNat ≠ x then none else okL x (seen ++ [i]) l
def okP : Nat → List Int → List (List Int) → Option (List Int)
 | _,seen,[] => some seen
 | x,seen,l :: r => match okL W ob n x seen l with
  | none => none
  | some s => okP (x + 1) s r
def moP (mo : List (List Int)) : Bool:=match okP W ob n 0 [] mo with
 | none => false
 | some s => decide (s.length = ((List.range n).filter W).length)
def moR (mo : List (List Int)) : Bool:=(List.range mo.length).all fun x => ((List.range n).all fun i => !(W i && decide (ob i = x)) || decide ((i : Int) ∈ mo.getD x [])) && decide ((mo.getD x []).length = (wrsX W ob n x).length)
variable {W ob n}
theorem okL_some : ∀ {l : List Int} {x : Nat} {s t : List Int},okL W ob n x s l = some t ↔ (t = s ++ l ∧ (∀ i ∈ l,0 ≤ i ∧ i < n ∧ W i.toNat = true ∧ ob i.toNat = x) ∧ l.Nodup ∧ ∀ i ∈ l,i ∉ s)
 | [],x,s,t => by
  simp only [okL,Option.some.injEq,List.append_nil,List.not_mem_nil,List.nodup_nil]
  exact ⟨fun h => ⟨h.symm,by simp,trivial,by simp⟩,fun h => h.1.symm⟩
 | i :: l,x,s,t => by
  rw [okL]
  split
  ·rename_i h
   constructor
   ·intro h; cases h
   ·rintro ⟨_,h2,h3,h4⟩
    have a:=h2 i (by simp)
    have b:=h4 i (by simp)
    rcases h with h | h | h | h | h
    ·omega
    ·omega
    ·exact absurd h b
    ·rw [h] at a; simp at a
    ·exact absurd a.2.2.2 h
  ·rename_i h
   have h0 : 0 ≤ i:=by
    by_cases h0 : i < 0
    ·exact absurd (.inl h0) h
    ·omega
   have h1 : i < n:=by
    by_cases h1 : (n : Int) ≤ i
    ·exact absurd (.inr (.inl h1)) h
    ·omega
   have h2 : i ∉ s:=fun x => h (.inr (.inr (.inl x)))
   have h3 : W i.toNat = true:=by
    cases hw : W i.toNat with
    | true => rfl
    | false => exact absurd (.inr (.inr (.inr (.inl hw)))) h
   have h4 : ob i.toNat = x:=by
    by_cases h4 : ob i.toNat = x
    ·exact h4
    ·exact absurd (.inr (.inr (.inr (.inr h4)))) h
   rw [okL_some]
   constructor
   ·rintro ⟨rfl,g2,g3,g4⟩
    refine ⟨by simp,fun j hj => ?_,?_,fun j hj => ?_⟩
    ·rcases List.mem_cons.1 hj with rfl | hj
     ·exact ⟨h0,h1,h3,h4⟩
     ·exact g2 j hj
    ·rw [List.nodup_cons]
     exact ⟨fun hi => g4 i hi (by simp),g3⟩
    ·rcases List.mem_cons.1 hj with rfl | hj
     ·exact h2
     ·exact fun hs => g4 j hj (by simp [hs])
   ·rintro ⟨rfl,g2,g3,g4⟩
    rw [List.nodup_cons] at g3
    refine ⟨by simp,fun j hj => g2 j (by simp [hj]),g3.2,fun j hj hs => ?_⟩
    rcases List.mem_append.1 hs with hs | hs
    ·exact g4 j (by simp [hj]) hs
    ·simp at hs; subst hs; exact g3.1 hj
theorem okP_some : ∀ {mo : List (List Int)} {x : Nat} {s t : List Int},okP W ob n x s mo = some t ↔ (t = s ++ mo.flatten ∧ (∀ (k : Nat) (l : List Int),mo[k]? = some l → ∀ i ∈ l,0 ≤ i ∧ i < n ∧ W i.toNat = true ∧ ob i.toNat = ((x + k : Nat) : Int)) ∧ mo.flatten.Nodup ∧ ∀ i ∈ mo.flatten,i ∉ s)
 | [],x,s,t => by
  simp only [okP,Option.some.injEq,List.flatten_nil,List.append_nil,List.not_mem_nil,List.nodup_nil]
  exact ⟨fun h => ⟨h.symm,by simp,trivial,by simp⟩,fun h => h.1.symm⟩
 | l :: r,x,s,t => by
  rw [okP]
  cases hL : okL W ob n x s l with
  | none =>
   constructor
   ·intro h; cases h
   ·rintro ⟨_,h2,h3,h4⟩
    exfalso
    rw [List.flatten_cons,List.nodup_append] at h3
    have : okL W ob n x s l = some (s ++ l):=okL_some.2 ⟨rfl,fun i hi => by have:=h2 0 l (by simp) i hi; simpa using this,h3.1,fun i hi => h4 i (by simp [hi])⟩
    rw [this] at hL
    cases hL
  | some s' =>
   obtain ⟨rfl,g2,g3,g4⟩:=okL_some.1 hL
   dsimp only
   rw [okP_some]
   constructor
   ·rintro ⟨rfl,h2,h3,h4⟩
    refine ⟨by simp,fun k l' hk i hi => ?_,?_,fun i hi => ?_⟩
    ·match k,hk with
     | 0,hk => simp at hk; subst hk; simpa using g2 i hi
     | k + 1,hk =>
      have:=h2 k l' (by simpa using hk) i hi
      rwa [show x + 1 + k = x + (k + 1) from by omega] at this
    ·rw [List.flatten_cons,List.nodup_append]
     refine ⟨g3,h3,fun a ha b hb e => ?_⟩
     subst e
     exact h4 a hb (by simp [ha])
    ·rw [List.flatten_cons,List.mem_append] at hi
     rcases hi with hi | hi
     ·exact g4 i hi
     ·exact fun hs => h4 i hi (by simp [hs])
   ·rintro ⟨rfl,h2,h3,h4⟩
    rw [List.flatten_cons,List.nodup_append] at h3
    refine ⟨by simp,fun k l' hk i hi => ?_,h3.2.1,fun i hi hs => ?_⟩
    ·have:=h2 (k + 1) l' (by simpa using hk) i hi
     rwa [show x + (k + 1) = x + 1 + k from by omega] at this
    ·rcases List.mem_append.1 hs with hs | hs
     ·exact h4 i (by simp only [List.flatten_cons,List.mem_append]; exact .inr hi) hs
     ·exact h3.2.2 i hs i hi rfl
theorem wrsX_nodup (x : Nat) : (wrsX W ob n x).Nodup:=by
 refine List.Pairwise.map _ ?_ (List.Pairwise.filter _ List.nodup_range)
 intro a b h e
 exact h (by omega)
theorem mem_wrs {i : Int} : i ∈ wrs W n ↔ 0 ≤ i ∧ i < n ∧ W i.toNat = true:=by
 simp only [wrs,List.mem_map,List.mem_filter,List.mem_range]
 constructor
 ·rintro ⟨a,⟨h1,h2⟩,rfl⟩
  exact ⟨by omega,by omega,by simpa using h2⟩
 ·rintro ⟨h0,h1,h2⟩
  exact ⟨i.toNat,⟨by omega,h2⟩,by omega⟩
theorem mem_wrsX {i : Int} {x : Nat} : i ∈ wrsX W ob n x ↔ 0 ≤ i ∧ i < n ∧ W i.toNat = true ∧ ob i.toNat = x:=by
 simp only [wrsX,List.mem_map,List.mem_filter,List.mem_range,Bool.and_eq_true,decide_eq_true_eq]
 constructor
 ·rintro ⟨a,⟨h1,h2,h3⟩,rfl⟩
  exact ⟨by omega,by omega,by simpa using h2,by simpa using h3⟩
 ·rintro ⟨h0,h1,h2,h3⟩
  exact ⟨i.toNat,⟨by omega,h2,h3⟩,by omega⟩
theorem moR_iff {mo : List (List Int)} : moR W ob n mo = true ↔ ∀ (k : Nat) (l : List Int),mo[k]? = some l → (∀ i ∈ wrsX W ob n k,i ∈ l) ∧ l.length = (wrsX W ob n k).length:=by
 simp only [moR,List.all_eq_true,List.mem_range,Bool.and_eq_true,Bool.or_eq_true,Bool.not_eq_true',decide_eq_true_eq]
 constructor
 ·intro h k l hk
  have hlt : k < mo.length:=by
   by_cases hlt : k < mo.length
   ·exact hlt
   ·rw [List.getElem?_eq_none (by omega)] at hk; cases hk
  have hg : mo.getD k [] = l:=by rw [List.getD_eq_getElem?_getD,hk]; rfl
  obtain ⟨h1,h2⟩:=h k hlt
  rw [hg] at h1 h2
  refine ⟨fun i hi => ?_,h2⟩
  obtain ⟨g0,g1,g2,g3⟩:=mem_wrsX.1 hi
  rcases h1 i.toNat (by omega) with h | h
  ·rw [Bool.and_eq_false_iff] at h
   rcases h with h | h
   ·rw [g2] at h; cases h
   ·simp at h; exact absurd g3 h
  ·rwa [show ((i.toNat : Nat) : Int) = i from by omega] at h
 ·intro h k hlt
  obtain ⟨l,hk⟩ : ∃ l,mo[k]? = some l:=⟨_,List.getElem?_eq_getElem hlt⟩
  have hg : mo.getD k [] = l:=by rw [List.getD_eq_getElem?_getD,hk]; rfl
  obtain ⟨h1,h2⟩:=h k l hk
  rw [hg]
  refine ⟨fun i hi => ?_,h2⟩
  by_cases hw : W i = true ∧ ob i = k
  ·exact .inr (h1 i (mem_wrsX.2 ⟨by omega,by omega,by simpa using hw.1,by simpa using hw.2⟩))
  ·left
   rw [Bool.and_eq_false_iff]
   by_cases hw1 : W i = true
   ·right
    simp
    exact fun e => hw ⟨hw1,e⟩
   ·left; simpa using hw1
theorem sum_wrsX {m : Nat} (hob : ∀ i,i < n → W i = true → 0 ≤ ob i ∧ ob i < m) : ((List.range m).map fun (x : Nat) => (wrsX W ob n x).length).sum = (wrs W n).length:=by
 have key : ∀ (L : List Nat),(∀ i ∈ L,W i = true → 0 ≤ ob i ∧ ob i < m) → ((List.range m).map fun (x : Nat) => (L.filter fun i => W i && decide (ob i = (x : Int))).length).sum = (L.filter W).length:=by
  intro L
  induction L with
  | nil =>
   intro _
   have : (List.range m).map (fun _ : Nat => 0) = List.replicate m 0:=by rw [List.map_const']; simp
   simp [this]
  | cons i L ih =>
   intro h
   have ih:=ih fun j hj => h j (by simp [hj])
   have hone : ∀ (k : Nat) (c : Nat → Nat) (o : Int),0 ≤ o → ((List.range k).map fun (x : Nat) => c x + if o = (x : Int) then 1 else 0).sum = ((List.range k).map c).sum + if o < k then 1 else 0:=by
    intro k c o ho
    induction k with
    | zero => simp; omega
    | succ k ihk =>
     rw [List.range_succ,List.map_append,List.map_append,List.sum_append,List.sum_append,ihk]
     simp only [List.map_cons,List.map_nil,List.sum_cons,List.sum_nil]
     split <;> split <;> split <;> omega
   cases hw : W i with
   | false =>
    simp only [List.filter_cons,hw,Bool.false_and,Bool.false_eq_true,if_false]
    exact ih
   | true =>
    obtain ⟨h1,h2⟩:=h i (by simp) hw
    have:=hone m (fun (x : Nat) => (L.filter fun i => W i && decide (ob i = (x : Int))).length) (ob i) h1
    rw [ih,if_pos h2] at this
    rw [show (List.filter W (i :: L)).length = (List.filter W L).length + 1 from by simp [List.filter_cons,hw]]
    rw [← this]
    congr 1
    apply List.map_congr_left
    intro x _
    simp only [List.filter_cons,hw,Bool.true_and,decide_eq_true_eq]
    split <;> simp
 simp only [wrsX,wrs,List.length_map]
 exact key (List.range n) fun i hi => hob i (List.mem_range.1 hi)
theorem flat_len (mo : List (List Int)) : mo.flatten.length = ((List.range mo.length).map fun (x : Nat) => (mo.getD x []).length).sum:=by
 rw [List.length_flatten]
 congr 1
 apply List.ext_getElem?
 intro i
 simp only [List.getElem?_map,List.getElem?_range']
 by_cases h : i < mo.length
 ·rw [List.getElem?_eq_getElem h,List.getElem?_range h]
  simp [List.getD_eq_getElem?_getD,h]
 ·rw [List.getElem?_eq_none (by omega),List.getElem?_eq_none (by simp; omega)]
  rfl
theorem mo_same {mo : List (List Int)} (hob : ∀ i,i < n → W i = true → 0 ≤ ob i ∧ ob i < mo.length) : moP W ob n mo = moR W ob n mo:=by
 have hwl : ((List.range n).filter W).length = (wrs W n).length:=by simp [wrs]
 have hP : moP W ob n mo = true ↔ moR W ob n mo = true:=by
  rw [moR_iff]
  unfold moP
  constructor
  ·intro h
   cases hp : okP W ob n 0 [] mo with
   | none => rw [hp] at h; cases h
   | some s =>
    rw [hp] at h
    simp only [decide_eq_true_eq] at h
    obtain ⟨rfl,h2,h3,_⟩:=okP_some.1 hp
    rw [List.nil_append,hwl] at h
    have hsub : ∀ i ∈ mo.flatten,i ∈ wrs W n:=by
     intro i hi
     obtain ⟨l,hl,hil⟩:=List.mem_flatten.1 hi
     obtain ⟨k,hk⟩:=List.getElem?_of_mem hl
     have:=h2 k l hk i hil
     exact mem_wrs.2 ⟨this.1,this.2.1,this.2.2.1⟩
    have hperm:=perm_of h3 hsub (by omega)
    intro k l hk
    have hkl : ∀ i ∈ wrsX W ob n k,i ∈ l:=by
     intro i hi
     obtain ⟨g0,g1,g2,g3⟩:=mem_wrsX.1 hi
     have : i ∈ mo.flatten:=hperm.symm.subset (mem_wrs.2 ⟨g0,g1,g2⟩)
     obtain ⟨l',hl',hil⟩:=List.mem_flatten.1 this
     obtain ⟨k',hk'⟩:=List.getElem?_of_mem hl'
     have:=h2 k' l' hk' i hil
     rw [g3] at this
     have hkk : k' = k:=by omega
     rw [hkk,hk] at hk'
     cases hk'
     exact hil
    have hlk : ∀ i ∈ l,i ∈ wrsX W ob n k:=by
     intro i hi
     have:=h2 k l hk i hi
     rw [Nat.zero_add] at this
     exact mem_wrsX.2 this
    have hln : l.Nodup:=by
     have hmem:=List.mem_of_getElem? hk
     exact (List.pairwise_flatten.1 h3).1 l hmem
    refine ⟨hkl,?_⟩
    have a1 : l.length ≤ (wrsX W ob n k).length:=(sub_len hln hlk)
    have a2 : (wrsX W ob n k).length ≤ l.length:=(sub_len (wrsX_nodup k) hkl)
    omega
  ·intro h
   have hperm : ∀ (k : Nat) (l : List Int),mo[k]? = some l → (wrsX W ob n k).Perm l:=fun k l hk => perm_of (wrsX_nodup k) (h k l hk).1 (by rw [(h k l hk).2]; exact Nat.le_refl _)
   have hmem : ∀ (k : Nat) (l : List Int),mo[k]? = some l → ∀ i ∈ l,0 ≤ i ∧ i < n ∧ W i.toNat = true ∧ ob i.toNat = ((0 + k : Nat) : Int):=fun k l hk i hi => by
    rw [Nat.zero_add]; exact mem_wrsX.1 ((hperm k l hk).symm.subset hi)
   have hnd : mo.flatten.Nodup:=by
    unfold List.Nodup
    rw [List.pairwise_flatten]
    refine ⟨fun l hl => ?_,?_⟩
    ·obtain ⟨k,hk⟩:=List.getElem?_of_mem hl
     exact (hperm k l hk).nodup (wrsX_nodup k)
    ·rw [List.pairwise_iff_getElem]
     intro a b ha hb hab i hi1 j hi2 hij
     subst hij
     have x1:=hmem a _ (List.getElem?_eq_getElem ha) i hi1
     have x2:=hmem b _ (List.getElem?_eq_getElem hb) i hi2
     omega
   have hp : okP W ob n 0 [] mo = some mo.flatten:=okP_some.2 ⟨rfl,hmem,hnd,by simp⟩
   rw [hp]
   simp only [decide_eq_true_eq]
   rw [hwl,← sum_wrsX hob,flat_len]
   congr 1
   apply List.map_congr_left
   intro x hx
   have hlt:=List.mem_range.1 hx
   obtain ⟨l,hk⟩ : ∃ l,mo[x]? = some l:=⟨_,List.getElem?_eq_getElem hlt⟩
   have hg : mo.getD x [] = l:=by rw [List.getD_eq_getElem?_getD,hk]; rfl
   rw [hg]
   exact (h x l hk).2
 cases h1 : moP W ob n mo <;> cases h2 : moR W ob n mo <;> simp_all
end
end Go.Rg
