/- Parts of the proofs of the statement, joined and made short: RTab RcMath RcEv WA WA1 WC0. -/
import Derived.Test.YtgaeajfoiigbkaaGreatDoorP3
import Derived.Test.YtgaeajfoiigbkaaGreatDoorP7
import Derived.Test.YtgaeajfoiigbkaaGreatDoorP8
set_option linter.unusedVariables false
set_option linter.unusedSimpArgs false
set_option linter.unusedSectionVars false
namespace Go.Am.E
open Go.Proofs
noncomputable def tfE : FuncId → Option AFun
 | 4 => some fn4
 | 14 => some fn14
 | 16 => some fn16
 | 17 => some fn17
 | 18 => some fn18
 | 34 => some fn34
 | 35 => some fn35
 | 36 => some fn36
 | 37 => some fn37
 | 38 => some fn38
 | 39 => some fn39
 | 53 => some fn53
 | 54 => some fn54
 | 55 => some fn55
 | 56 => some fn56
 | 57 => some fn57
 | 58 => some fn58
 | 59 => some fn59
 | 60 => some fn60
 | 61 => some fn61
 | 62 => some fn62
 | 63 => some fn63
 | 64 => some fn64
 | 65 => some fn65
 | 66 => some fn66
 | 67 => some fn67
 | 68 => some fn68
 | 69 => some fn69
 | 72 => some fn72
 | 77 => some fn77
 | 78 => some fn78
 | 103 => some fn103
 | 104 => some fn104
 | 105 => some fn105
 | 106 => some fn106
 | 107 => some fn107
 | 108 => some fn108
 | 109 => some fn109
 | 110 => some fn110
 | 111 => some fn111
 | 112 => some fn112
 | 113 => some fn113
 | 114 => some fn114
 | 115 => some fn115
 | 116 => some fn116
 | 117 => some fn117
 | 119 => some fn119
 | 120 => some fn120
 | 121 => some fn121
 | 122 => some fn122
 | 123 => some fn123
 | 124 => some fn124
 | 125 => some fn125
 | 126 => some fn126
 | 127 => some fn127
 | 128 => some fn128
 | 147 => some fn147
 | 148 => some fn148
 | 149 => some fn149
 | 150 => some fn150
 | 151 => some fn151
 | 152 => some fn152
 | 153 => some fn153
 | 154 => some fn154
 | 155 => some fn155
 | 156 => some fn156
 | 157 => some fn157
 | 158 => some fn158
 | 159 => some fn159
 | 178 => some fn178
 | 179 => some fn179
 | 180 => some fn180
 | 181 => some fn181
 | 182 => some fn182
 | 183 => some fn183
 | 184 => some fn184
 | 185 => some fn185
 | 186 => some fn186
 | 235 => some fn235
 | 236 => some fn236
 | _ => none
noncomputable def lpE : Nat → Option ALoop
 | 57 => some lp57
 | 60 => some lp60
 | _ => none
noncomputable def lawE : Orc:=memoL [⟨15,[],.dat (.bool true)⟩] (fun _ _ _ => none)
noncomputable def tblE : Tab:={ fn:=tfE,lp:=lpE,law:=lawE }
noncomputable abbrev K : Orc:=callT tblE
end Go.Am.E

namespace Go.Rc
abbrev Clk:=List (Int × Int)
def cnt : Clk → Int → Int
 | [],_ => 0
 | (a,c) :: r,x => if a = x then c else cnt r x
def ok (lim : Int) : Option Int → Clk → Prop
 | _,[] => True
 | lo,(a,c) :: r => (∀ b,lo = some b → b < a) ∧ 1 ≤ c ∧ c ≤ lim ∧ ok lim (some a) r
def adv : Clk → Int → Clk
 | [],x => [(x,1)]
 | (a,c) :: r,x => if a = x then (a,c + 1) :: r else if x < a then (x,1) :: (a,c) :: r else (a,c) :: adv r x
def join : Clk → Clk → Clk
 | [],b => b
 | (a,c) :: r,[] => (a,c) :: r
 | (a,c) :: r,(b,d) :: s => if a = b then (a,max c d) :: join r s else if a < b then (a,c) :: join r ((b,d) :: s) else (b,d) :: join ((a,c) :: r) s
 termination_by a b => a.length + b.length
section
variable (D : Nat → Nat → Bool)
def bef (i : Nat) : Nat → Bool
 | k => decide (i < k) && (D i k || (List.range k).attach.any fun j => D j.1 k && bef i j.1)
 termination_by k => k
 decreasing_by exact List.mem_range.1 j.2
def beq' (i k : Nat) : Bool:=i == k || bef D i k
end
section
variable (D : Nat → Nat → Bool) (ag : Nat → Int)
def nb (k : Nat) (x : Int) : Nat:=(List.range k).countP fun i => bef D i k && decide (ag i = x)
def refClk (k : Nat) : Clk:=(List.range k).foldl (fun c i => if bef D i k then adv c (ag i) else c) (adv [] (ag k))
variable (pr : Nat → List Nat)
def JoinsTo (clk : Nat → Clk) (n : Nat) : Prop:=∀ k,k < n → clk k = adv (((pr k).map clk).foldl join []) (ag k)
end
end Go.Rc

namespace Go.Rc
structure Evt where
 ag : Int
 idx : Int
 kind : Int
 obj : Int
 mux : Int
 ent : Int
 ord : Int
 rd : Int
 wr : Int
 deriving DecidableEq,Inhabited
abbrev isVal (n : Int) : Prop:=-2147483648 ≤ n ∧ n ≤ 2147483647
def ordered (k : Int) : Bool:=decide (k = 1 ∨ k = 2 ∨ k = 3 ∨ k = 5 ∨ k = 6 ∨ k = 8)
def zif7 (k : Int) : Bool:=decide (k = 1 ∨ k = 8 ∨ k = 5 ∨ k = 6)
def wroteK (k : Int) : Bool:=decide (k = 2 ∨ k = 3 ∨ k = 4 ∨ k = 5)
def objOk (e : Evt) : Bool :=
 if e.kind = 7 then decide (e.obj = 0)
 else if e.kind = 9 ∨ e.kind = 10 ∨ e.kind = 11 then decide (0 ≤ e.obj ∧ e.obj < 4)
 else if e.kind = 12 ∨ e.kind = 13 ∨ e.kind = 14 ∨ e.kind = 15 then decide (0 ≤ e.obj ∧ e.obj < 4)
 else if e.kind = 16 ∨ e.kind = 17 then decide (0 ≤ e.obj)
 else decide (0 ≤ e.obj ∧ e.obj < 8)
def resOk (e : Evt) : Bool :=
 if e.kind = 11 ∨ e.kind = 14 then decide (0 ≤ e.rd ∧ e.rd < 2)
 else if e.kind = 15 then decide (0 ≤ e.rd)
 else decide (isVal e.rd) && (zif7 e.kind || decide (e.rd = 0))
def entOk (e : Evt) : Bool :=
 if e.kind = 1 ∨ e.kind = 8 then decide (-1 ≤ e.ent)
 else if e.kind = 3 ∨ e.kind = 4 then decide (0 ≤ e.ent)
 else decide (e.ent = -1)
def vld (e : Evt) : Bool :=
 decide (1 ≤ e.kind) && decide (e.kind ≤ 17) && decide (e.ag < 0 ↔ e.kind = 4) && decide (0 ≤ e.idx) && objOk e && resOk e && entOk e &&
 decide (0 ≤ e.ord) && decide (e.ord ≤ 2) && (ordered e.kind || decide (e.ord = 0)) && decide (isVal e.wr) && (wroteK e.kind || decide (e.wr = 0)) &&
 (if e.kind = 12 then decide (0 ≤ e.mux ∧ e.mux < 4) else decide (e.mux = -1))
theorem vld_facts {e : Evt} (h : vld e = true) : (1 ≤ e.kind ∧ e.kind ≤ 17) ∧ (e.ag < 0 ↔ e.kind = 4) ∧ 0 ≤ e.obj ∧ (e.kind = 12 → 0 ≤ e.mux) ∧ (e.kind ≠ 12 → e.mux = -1):=by
 simp only [vld,Bool.and_eq_true,decide_eq_true_eq] at h
 obtain ⟨⟨⟨⟨⟨⟨⟨⟨⟨⟨⟨⟨h1,h2⟩,h3⟩,h4⟩,h5⟩,_⟩,_⟩,_⟩,_⟩,_⟩,_⟩,_⟩,h6⟩:=h
 refine ⟨⟨h1,h2⟩,h3,?_,fun e => ?_,fun e => ?_⟩
 ·unfold objOk at h5
  split at h5
  ·simp at h5; omega
  ·split at h5
   ·simp at h5; omega
   ·split at h5
    ·simp at h5; omega
    ·split at h5 <;> (simp at h5; omega)
 ·rw [if_pos e] at h6; simp at h6; omega
 ·rw [if_neg e] at h6; simpa using h6
def lst (p : Nat → Bool) : Nat → Option Nat
 | 0 => none
 | n + 1 => if p n then some n else lst p n
def thr (a : Int) : Int:=if a < 0 then -(a + 1) else a
def flu (t : Int) : Int:=if t < 0 then 0 else -t - 1
def Evt.reads (e : Evt) : Bool:=zif7 e.kind
def Evt.writes (e : Evt) : Bool:=decide (e.kind = 2 ∨ e.kind = 5 ∨ e.kind = 4)
def Evt.puts (e : Evt) : Bool:=decide (e.kind = 2 ∨ e.kind = 3 ∨ e.kind = 5)
section
variable (e : Nat → Evt)
def isBuf (a t : Int) (i : Nat) : Bool:=(e i).kind == 3 && (e i).ag == a && (e i).ent == t
def bufd (n : Nat) (a t none : Int) : Int:=match lst (isBuf e a t) n with
 | some i => i
 | Option.none => none
def isWr (o : Int) (i : Nat) : Bool:=(e i).writes && (e i).obj == o
def src (i : Nat) : Int :=
 if (e i).reads = true then
  if 0 ≤ (e i).ent then bufd e i (e i).ag (e i).ent (-1)
  else match lst (isWr e (e i).obj) i with
   | none => -1
   | some w => if (e w).kind = 4 then bufd e w (thr (e w).ag) (e w).ent w else w
 else -2
def chain : Nat → Int → List Nat
 | 0,_ => []
 | f + 1,s => if s < 0 then [] else s.toNat :: if (e s.toNat).kind = 5 then chain f (src e s.toNat) else []
def acq (x : Evt) : Bool:=x.reads && decide (x.ord = 2)
def rel (x : Evt) : Bool:=x.puts && decide (x.ord = 2)
def rels (k : Nat) : List Nat:=if acq (e k) then (chain e k (src e k)).filter fun i => rel (e i) else []
def withR (i k : Nat) : Bool:=rel (e i) && acq (e k) && (chain e k (src e k)).contains i
def mutexOf (x : Evt) : Int:=if x.kind = 9 ∨ x.kind = 10 ∨ x.kind = 11 then x.obj else x.mux
def condOf (x : Evt) : Int:=if x.kind = 12 ∨ x.kind = 13 ∨ x.kind = 14 ∨ x.kind = 15 then x.obj else -1
def direct (i k : Nat) : Bool :=
 decide ((e i).ag = (e k).ag) || (decide (0 ≤ mutexOf (e i)) && decide (mutexOf (e i) = mutexOf (e k))) || (decide (0 ≤ condOf (e i)) && decide (condOf (e i) = condOf (e k))) ||
 (decide ((e i).kind = 16) && (decide ((e i).obj = (e k).ag) || (decide ((e k).kind = 17) && decide ((e i).obj = (e k).obj)))) || (decide ((e k).kind = 17) && decide ((e k).obj = (e i).ag)) ||
 (decide ((e i).kind = 3) && decide ((e k).kind = 4) && decide ((e k).ag = flu (e i).ag) && decide ((e i).ent = (e k).ent)) ||
 withR e i k
def objs (x : Evt) : List (Int × Int) :=
 if x.kind = 9 ∨ x.kind = 10 ∨ x.kind = 11 then [(2,x.obj)]
 else if x.kind = 12 then [(2,x.mux),(3,x.obj)]
 else if x.kind = 13 ∨ x.kind = 14 ∨ x.kind = 15 then [(3,x.obj)]
 else []
def lastAg (a : Int) (k : Nat) : Option Nat:=lst (fun i => decide ((e i).ag = a)) k
def lastOb (o : Int × Int) (k : Nat) : Option Nat:=lst (fun i => (objs (e i)).contains o) k
def spawned (a : Int) (k : Nat) : List Nat:=(List.range k).filter fun i => decide ((e i).kind = 16) && decide ((e i).obj = a)
def buffs (x : Evt) (k : Nat) : List Nat:=(List.range k).filter fun i => isBuf e (thr x.ag) x.ent i
def special (k : Nat) : List Nat :=
 if (e k).kind = 17 then (lastAg e (e k).obj k).toList ++ spawned e (e k).obj k
 else if (e k).kind = 4 then buffs e (e k) k
 else []
def preds (k : Nat) : List Nat :=
 (lastAg e (e k).ag k).toList ++ ((objs (e k)).flatMap fun o => (lastOb e o k).toList) ++ spawned e (e k).ag k ++ special e k ++ rels e k
variable {e}
end
end Go.Rc

set_option maxRecDepth 10000
namespace Go.Am.E
open Go.Proofs Go.Rc
abbrev Nn (n : Int) : Dat:=.int .i64 n
def _root_.Go.Rc.Evt.cells (e : Evt) : List Dat:=[Nn e.ag,Nn e.idx,Nn e.kind,Nn e.obj,Nn e.mux,Nn e.ent,Nn e.ord,Nn e.rd,Nn e.wr]
abbrev _root_.Go.Rc.Evt.dat (e : Evt) : Dat:=.agg e.cells
theorem run119 (a : Int) : K 119 [.dat (Nn a)] [] = some (.dat (.bool (decide (a < 0))),[]):=by
 refine zha7 (fn:=fn119) rfl rfl ?_
 simp [zja7]
theorem run120 (a : Int) : K 120 [.dat (Nn a)] [] = some (.dat (.bool (decide (a < 0))),[]):=by
 refine zha7 (fn:=fn120) rfl rfl ?_
 simp [zja7]
theorem run127 (a b : Int) : K 127 [.dat (Nn a),.dat (Nn b)] [] = some (.dat (.bool (decide (0 ≤ a ∧ a < b))),[]):=by
 refine zha7 (fn:=fn127) rfl rfl ?_
 by_cases h : 0 ≤ a <;> simp [zja7,h]
theorem run125 (a : Int) : K 125 [.dat (Nn a)] [] = some (.dat (.bool (decide (isVal a))),[]):=by
 refine zha7 (fn:=fn125) rfl rfl ?_
 by_cases h : -2147483648 ≤ a <;> simp [zja7,h,isVal]
end Go.Am.E

set_option maxRecDepth 100000
namespace Go.Am.E
open Go.Proofs Go.Rc
def VP (e : Evt) : Prop :=
 1 ≤ e.kind ∧ e.kind ≤ 17 ∧ (e.ag < 0 ↔ e.kind = 4) ∧ 0 ≤ e.idx ∧
 0 ≤ e.obj ∧ (e.kind = 7 → e.obj = 0) ∧ (9 ≤ e.kind ∧ e.kind ≤ 15 → e.obj < 4) ∧ (e.kind ≤ 6 ∨ e.kind = 8 → e.obj < 8) ∧
 (e.kind = 11 ∨ e.kind = 14 → 0 ≤ e.rd ∧ e.rd < 2) ∧ (e.kind = 15 → 0 ≤ e.rd) ∧ (e.kind = 1 ∨ e.kind = 8 ∨ e.kind = 5 ∨ e.kind = 6 → -2147483648 ≤ e.rd ∧ e.rd ≤ 2147483647) ∧
 (¬ (e.kind = 11 ∨ e.kind = 14 ∨ e.kind = 15 ∨ e.kind = 1 ∨ e.kind = 8 ∨ e.kind = 5 ∨ e.kind = 6) → e.rd = 0) ∧
 (e.kind = 1 ∨ e.kind = 8 → -1 ≤ e.ent) ∧ (e.kind = 3 ∨ e.kind = 4 → 0 ≤ e.ent) ∧ (¬ (e.kind = 1 ∨ e.kind = 8 ∨ e.kind = 3 ∨ e.kind = 4) → e.ent = -1) ∧
 0 ≤ e.ord ∧ e.ord ≤ 2 ∧ (¬ (e.kind = 1 ∨ e.kind = 2 ∨ e.kind = 3 ∨ e.kind = 5 ∨ e.kind = 6 ∨ e.kind = 8) → e.ord = 0) ∧
 -2147483648 ≤ e.wr ∧ e.wr ≤ 2147483647 ∧ (¬ (e.kind = 2 ∨ e.kind = 3 ∨ e.kind = 4 ∨ e.kind = 5) → e.wr = 0) ∧
 (e.kind = 12 → 0 ≤ e.mux ∧ e.mux < 4) ∧ (e.kind ≠ 12 → e.mux = -1)
theorem vld_iff (e : Evt) : vld e = true ↔ VP e:=by
 obtain ⟨ag,idx,kind,obj,mux,ent,ord,rd,wr⟩:=e
 by_cases h : 1 ≤ kind ∧ kind ≤ 17
 ·have : kind = 1 ∨ kind = 2 ∨ kind = 3 ∨ kind = 4 ∨ kind = 5 ∨ kind = 6 ∨ kind = 7 ∨ kind = 8 ∨ kind = 9 ∨ kind = 10 ∨ kind = 11 ∨ kind = 12 ∨ kind = 13 ∨ kind = 14 ∨ kind = 15 ∨ kind = 16 ∨ kind = 17:=by omega
  rcases this with rfl | rfl | rfl | rfl | rfl | rfl | rfl | rfl | rfl | rfl | rfl | rfl | rfl | rfl | rfl | rfl | rfl <;>
  simp [vld,VP,objOk,resOk,entOk,ordered,zif7,wroteK,isVal] <;> omega
 ·simp only [vld,VP,Bool.and_eq_true,decide_eq_true_eq]
  constructor
  ·rintro ⟨⟨⟨⟨⟨⟨⟨⟨⟨⟨⟨⟨h1,h2⟩,_⟩,_⟩,_⟩,_⟩,_⟩,_⟩,_⟩,_⟩,_⟩,_⟩,_⟩
   exact absurd ⟨h1,h2⟩ h
  ·rintro ⟨h1,h2,_⟩
   exact absurd ⟨h1,h2⟩ h
theorem vf {e : Evt} (h : ¬ VP e) : vld e = false:=Bool.eq_false_iff.2 fun hv => h ((vld_iff e).1 hv)
theorem vt {e : Evt} (h : VP e) : vld e = true:=(vld_iff e).2 h
theorem glob0_len : glob0.length = 136:=rfl
theorem row1 : List.take 8 glob0 = [.int .i64 7,.bool true,.int .i64 (-2147483648),.int .i64 2147483647,.bool false,.int .i64 (-1),.int .i64 1,.bool false]:=rfl
theorem row2 : List.take 8 (List.drop 8 glob0) = [.int .i64 7,.bool true,.int .i64 0,.int .i64 0,.bool true,.int .i64 (-2),.int .i64 1,.bool true]:=rfl
theorem row3 : List.take 8 (List.drop 16 glob0) = [.int .i64 7,.bool true,.int .i64 0,.int .i64 0,.bool true,.int .i64 0,.int .i64 4,.bool true]:=rfl
theorem row4 : List.take 8 (List.drop 24 glob0) = [.int .i64 7,.bool false,.int .i64 0,.int .i64 0,.bool true,.int .i64 0,.int .i64 1,.bool true]:=rfl
theorem row5 : List.take 8 (List.drop 32 glob0) = [.int .i64 7,.bool true,.int .i64 (-2147483648),.int .i64 2147483647,.bool true,.int .i64 (-2),.int .i64 1,.bool true]:=rfl
theorem row6 : List.take 8 (List.drop 40 glob0) = [.int .i64 7,.bool true,.int .i64 (-2147483648),.int .i64 2147483647,.bool false,.int .i64 (-2),.int .i64 1,.bool false]:=rfl
theorem row7 : List.take 8 (List.drop 48 glob0) = [.int .i64 0,.bool false,.int .i64 0,.int .i64 0,.bool false,.int .i64 (-2),.int .i64 0,.bool false]:=rfl
theorem row8 : List.take 8 (List.drop 56 glob0) = [.int .i64 7,.bool true,.int .i64 (-2147483648),.int .i64 2147483647,.bool false,.int .i64 (-1),.int .i64 1,.bool false]:=rfl
theorem row9 : List.take 8 (List.drop 64 glob0) = [.int .i64 3,.bool false,.int .i64 0,.int .i64 0,.bool false,.int .i64 (-2),.int .i64 2,.bool true]:=rfl
theorem row10 : List.take 8 (List.drop 72 glob0) = [.int .i64 3,.bool false,.int .i64 0,.int .i64 0,.bool false,.int .i64 (-2),.int .i64 2,.bool true]:=rfl
theorem row11 : List.take 8 (List.drop 80 glob0) = [.int .i64 3,.bool false,.int .i64 0,.int .i64 1,.bool false,.int .i64 (-2),.int .i64 2,.bool true]:=rfl
theorem row12 : List.take 8 (List.drop 88 glob0) = [.int .i64 3,.bool false,.int .i64 0,.int .i64 0,.bool false,.int .i64 (-2),.int .i64 3,.bool true]:=rfl
theorem row13 : List.take 8 (List.drop 96 glob0) = [.int .i64 3,.bool false,.int .i64 0,.int .i64 0,.bool false,.int .i64 (-2),.int .i64 3,.bool true]:=rfl
theorem row14 : List.take 8 (List.drop 104 glob0) = [.int .i64 3,.bool false,.int .i64 0,.int .i64 1,.bool false,.int .i64 (-2),.int .i64 3,.bool true]:=rfl
theorem row15 : List.take 8 (List.drop 112 glob0) = [.int .i64 3,.bool false,.int .i64 0,.int .i64 (-1),.bool false,.int .i64 (-2),.int .i64 3,.bool true]:=rfl
theorem row16 : List.take 8 (List.drop 120 glob0) = [.int .i64 (-1),.bool false,.int .i64 0,.int .i64 0,.bool false,.int .i64 (-2),.int .i64 0,.bool false]:=rfl
theorem row17 : List.take 8 (List.drop 128 glob0) = [.int .i64 (-1),.bool false,.int .i64 0,.int .i64 0,.bool false,.int .i64 (-2),.int .i64 0,.bool false]:=rfl
end Go.Am.E

set_option maxRecDepth 10000
namespace Go.Am.E
open Go.Proofs Go.Rc
theorem kinds {k : Int} (h : 1 ≤ k ∧ k ≤ 17) : k = 1 ∨ k = 2 ∨ k = 3 ∨ k = 4 ∨ k = 5 ∨ k = 6 ∨ k = 7 ∨ k = 8 ∨ k = 9 ∨ k = 10 ∨ k = 11 ∨ k = 12 ∨ k = 13 ∨ k = 14 ∨ k = 15 ∨ k = 16 ∨ k = 17:=by omega
theorem run124 (k : Int) : K 124 [.dat (Nn k)] [] = some (.dat (.bool (ordered k)),[]):=by
 refine zha7 (fn:=fn124) rfl rfl ?_
 by_cases h1 : k = 1
 ·subst h1; simp [zja7,ordered]
 by_cases h2 : k = 2
 ·subst h2; simp [zja7,ordered]
 by_cases h3 : k = 3
 ·subst h3; simp [zja7,ordered]
 by_cases h5 : k = 5
 ·subst h5; simp [zja7,ordered]
 by_cases h6 : k = 6
 ·subst h6; simp [zja7,ordered]
 simp [zja7,ordered,h1,h2,h3,h5,h6]
theorem run126 (k : Int) : K 126 [.dat (Nn k)] [] = some (.dat (.bool (wroteK k)),[]):=by
 refine zha7 (fn:=fn126) rfl rfl ?_
 by_cases h1 : k = 2
 ·subst h1; simp [zja7,wroteK]
 by_cases h2 : k = 3
 ·subst h2; simp [zja7,wroteK]
 by_cases h3 : k = 4
 ·subst h3; simp [zja7,wroteK]
 simp [zja7,wroteK,h1,h2,h3]
theorem run128 (k : Int) : K 128 [.dat (Nn k)] [] = some (.dat (.bool (zif7 k)),[]):=by
 refine zha7 (fn:=fn128) rfl rfl ?_
 by_cases h1 : k = 1
 ·subst h1; simp [zja7,zif7]
 by_cases h2 : k = 8
 ·subst h2; simp [zja7,zif7]
 by_cases h3 : k = 5
 ·subst h3; simp [zja7,zif7]
 simp [zja7,zif7,h1,h2,h3]
theorem run121 (e : Evt) (hk : 1 ≤ e.kind ∧ e.kind ≤ 17) : K 121 [.dat e.dat] [] = some (.dat (.bool (objOk e)),[]):=by
 obtain ⟨ag,idx,kind,obj,mux,ent,ord,rd,wr⟩:=e
 refine zha7 (fn:=fn121) rfl rfl ?_
 rcases kinds hk with rfl | rfl | rfl | rfl | rfl | rfl | rfl | rfl | rfl | rfl | rfl | rfl | rfl | rfl | rfl | rfl | rfl <;>
 simp [zja7,Evt.cells,objOk,run127]
theorem run123 (e : Evt) (hk : 1 ≤ e.kind ∧ e.kind ≤ 17) : K 123 [.dat e.dat] [] = some (.dat (.bool (entOk e)),[]):=by
 obtain ⟨ag,idx,kind,obj,mux,ent,ord,rd,wr⟩:=e
 refine zha7 (fn:=fn123) rfl rfl ?_
 rcases kinds hk with rfl | rfl | rfl | rfl | rfl | rfl | rfl | rfl | rfl | rfl | rfl | rfl | rfl | rfl | rfl | rfl | rfl <;>
 simp [zja7,Evt.cells,entOk]
theorem run122 (e : Evt) (hk : 1 ≤ e.kind ∧ e.kind ≤ 17) : K 122 [.dat e.dat] [] = some (.dat (.bool (resOk e)),[]):=by
 obtain ⟨ag,idx,kind,obj,mux,ent,ord,rd,wr⟩:=e
 refine zha7 (fn:=fn122) rfl rfl ?_
 by_cases hv : isVal rd <;>
 (rcases kinds hk with rfl | rfl | rfl | rfl | rfl | rfl | rfl | rfl | rfl | rfl | rfl | rfl | rfl | rfl | rfl | rfl | rfl <;>
 simp [zja7,Evt.cells,resOk,run127,run125,run128,zif7,hv])
theorem run121' (ag idx kind obj mux ent ord rd wr : Int) (h1 : 1 ≤ kind) (h2 : kind ≤ 17) : K 121 [.dat (.agg [Nn ag,Nn idx,Nn kind,Nn obj,Nn mux,Nn ent,Nn ord,Nn rd,Nn wr])] [] = some (.dat (.bool (objOk ⟨ag,idx,kind,obj,mux,ent,ord,rd,wr⟩)),[]):=run121 ⟨ag,idx,kind,obj,mux,ent,ord,rd,wr⟩ ⟨h1,h2⟩
theorem run122' (ag idx kind obj mux ent ord rd wr : Int) (h1 : 1 ≤ kind) (h2 : kind ≤ 17) : K 122 [.dat (.agg [Nn ag,Nn idx,Nn kind,Nn obj,Nn mux,Nn ent,Nn ord,Nn rd,Nn wr])] [] = some (.dat (.bool (resOk ⟨ag,idx,kind,obj,mux,ent,ord,rd,wr⟩)),[]):=run122 ⟨ag,idx,kind,obj,mux,ent,ord,rd,wr⟩ ⟨h1,h2⟩
theorem run123' (ag idx kind obj mux ent ord rd wr : Int) (h1 : 1 ≤ kind) (h2 : kind ≤ 17) : K 123 [.dat (.agg [Nn ag,Nn idx,Nn kind,Nn obj,Nn mux,Nn ent,Nn ord,Nn rd,Nn wr])] [] = some (.dat (.bool (entOk ⟨ag,idx,kind,obj,mux,ent,ord,rd,wr⟩)),[]):=run123 ⟨ag,idx,kind,obj,mux,ent,ord,rd,wr⟩ ⟨h1,h2⟩
end Go.Am.E
