/- Parts of the proofs of the statement, joined and made short: ESort ETab RcMath RcEv ES ET EM EX EK EK2 EW1 EW2 EW5 EW3 EW4 EW7 EW13 EW6 EW14 EW15 EW16 EW17 EW18 EW19 EW20 EW21 EW22 EW23 EW24 EW25 EW26 EW27 EW28 EW29 EW30 EW31. -/
import Derived.Test.YtgpmfmbhemjkgaaGreatDoorP4
import Derived.Test.YtgpmfmbhemjkgaaGreatDoorP7
import Derived.Test.YtgpmfmbhemjkgaaGreatDoorP8
import Derived.Test.YtgpmfmbhemjkgaaGreatDoorP9
import Derived.Test.YtgpmfmbhemjkgaaGreatDoorP5
set_option linter.unusedVariables false
set_option linter.unusedSimpArgs false
set_option linter.unusedSectionVars false
namespace Go.Am
def insS (x : Int) : List Int → List Int
 | [] => [x]
 | y :: r => if x ≤ y then x :: y :: r else y :: insS x r
def sortS : List Int → List Int
 | [] => []
 | x :: r => insS x (sortS r)
def intsD : List Dat → Option (List Int)
 | [] => some []
 | .int .i64 n :: r => (intsD r).map (n :: ·)
 | _ => none
def sortE (fs : FuncId) : Orc:=fun f args os =>
 if f = fs then
  match args,os with
  | [.rsl ((0,0),0,0) ver 1 0 len],[.plain (.arr 1 ver' false es)] => match intsD es with
   | some l => if ver = ver' ∧ len = es.length ∧ len < 10000000000 then some (.tup [],[.plain (.arr 1 ver false ((sortS l).map fun n => .int .i64 n))]) else none
   | none => none
  | [.cap0],[] => some (.tup [],[])
  | _,_ => none
 else none
end Go.Am

namespace Go.Am.E
open Go.Proofs
noncomputable def tfE : FuncId → Option AFun
 | 3 => some fn3
 | 4 => some fn4
 | 6 => some fn6
 | 7 => some fn7
 | 8 => some fn8
 | 13 => some fn13
 | 14 => some fn14
 | 15 => some fn15
 | 16 => some fn16
 | 22 => some fn22
 | 24 => some fn24
 | 28 => some fn28
 | 29 => some fn29
 | 30 => some fn30
 | 31 => some fn31
 | 32 => some fn32
 | 33 => some fn33
 | 41 => some { fn41 with split:=some 0 }
 | 45 => some fn45
 | 46 => some fn46
 | 51 => some fn51
 | 52 => some fn52
 | 53 => some fn53
 | 54 => some fn54
 | 55 => some fn55
 | 56 => some fn56
 | 57 => some fn57
 | 68 => some fn68
 | 69 => some fn69
 | 70 => some fn70
 | 75 => some fn75
 | 84 => some fn84
 | 85 => some fn85
 | 86 => some fn86
 | 87 => some fn87
 | 88 => some fn88
 | 89 => some fn89
 | 90 => some fn90
 | 91 => some fn91
 | 92 => some fn92
 | 93 => some fn93
 | 99 => some fn99
 | 100 => some fn100
 | 103 => some fn103
 | 104 => some fn104
 | 105 => some fn105
 | 106 => some fn106
 | 107 => some fn107
 | 108 => some fn108
 | 118 => some fn118
 | 119 => some fn119
 | 120 => some fn120
 | 121 => some fn121
 | 122 => some fn122
 | 123 => some fn123
 | 124 => some fn124
 | 125 => some fn125
 | 126 => some fn126
 | 127 => some fn127
 | 128 => some fn128
 | 129 => some fn129
 | 130 => some fn130
 | 131 => some fn131
 | 132 => some fn132
 | 133 => some fn133
 | 134 => some fn134
 | 135 => some fn135
 | 136 => some fn136
 | 137 => some fn137
 | 138 => some fn138
 | 139 => some fn139
 | 140 => some fn140
 | 141 => some fn141
 | 164 => some fn164
 | 165 => some fn165
 | 166 => some fn166
 | 167 => some fn167
 | 168 => some fn168
 | 169 => some fn169
 | 170 => some fn170
 | 171 => some fn171
 | 172 => some fn172
 | 173 => some fn173
 | 179 => some fn179
 | 180 => some fn180
 | 181 => some fn181
 | 182 => some fn182
 | 183 => some fn183
 | 184 => some fn184
 | 185 => some fn185
 | 186 => some fn186
 | 187 => some fn187
 | 188 => some fn188
 | 189 => some fn189
 | 190 => some fn190
 | 191 => some { fn191 with split:=some 0 }
 | 192 => some fn192
 | 193 => some fn193
 | 194 => some fn194
 | 195 => some fn195
 | 196 => some fn196
 | 197 => some fn197
 | 198 => some fn198
 | 199 => some fn199
 | 200 => some fn200
 | 201 => some fn201
 | 202 => some fn202
 | 203 => some fn203
 | 204 => some fn204
 | 205 => some fn205
 | 206 => some fn206
 | 207 => some fn207
 | 208 => some fn208
 | 209 => some fn209
 | 210 => some fn210
 | 211 => some fn211
 | 212 => some fn212
 | 213 => some fn213
 | 214 => some fn214
 | 215 => some fn215
 | 229 => some fn229
 | 230 => some fn230
 | 231 => some fn231
 | 232 => some fn232
 | 233 => some fn233
 | 234 => some fn234
 | 236 => some fn236
 | 237 => some fn237
 | 238 => some fn238
 | 239 => some fn239
 | 240 => some fn240
 | 241 => some fn241
 | 242 => some fn242
 | 243 => some fn243
 | 244 => some fn244
 | 245 => some fn245
 | 246 => some fn246
 | 247 => some fn247
 | 248 => some fn248
 | 249 => some fn249
 | 266 => some fn266
 | 267 => some fn267
 | 268 => some fn268
 | _ => none
noncomputable def lpE : Nat → Option ALoop
 | 45 => some lp45
 | 89 => some lp89
 | _ => none
noncomputable def lawE : Orc:=memoL [⟨5,[],.dat (.bool true)⟩] (sortE 61)
noncomputable def tblE : Tab:={ fn:=tfE,lp:=lpE,law:=lawE }
noncomputable abbrev K : Orc:=callT tblE
end Go.Am.E

namespace Go.Rc
abbrev Clk:=List (Int × Int)
def cnt : Clk → Int → Int
 | [],_ => 0
 | (a,c) :: r,x => if a = x then c else cnt r x
def ok (lim : Int) : Option Int → Clk → Prop
 | _,[] => True
 | lo,(a,c) :: r => (∀ b,lo = some b → b < a) ∧ 1 ≤ c ∧ c ≤ lim ∧ ok lim (some a) r
def adv : Clk → Int → Clk
 | [],x => [(x,1)]
 | (a,c) :: r,x => if a = x then (a,c + 1) :: r else if x < a then (x,1) :: (a,c) :: r else (a,c) :: adv r x
def join : Clk → Clk → Clk
 | [],b => b
 | (a,c) :: r,[] => (a,c) :: r
 | (a,c) :: r,(b,d) :: s => if a = b then (a,max c d) :: join r s else if a < b then (a,c) :: join r ((b,d) :: s) else (b,d) :: join ((a,c) :: r) s
 termination_by a b => a.length + b.length
section
variable (D : Nat → Nat → Bool)
def bef (i : Nat) : Nat → Bool
 | k => decide (i < k) && (D i k || (List.range k).attach.any fun j => D j.1 k && bef i j.1)
 termination_by k => k
 decreasing_by exact List.mem_range.1 j.2
def beq' (i k : Nat) : Bool:=i == k || bef D i k
end
section
variable (D : Nat → Nat → Bool) (ag : Nat → Int)
def nb (k : Nat) (x : Int) : Nat:=(List.range k).countP fun i => bef D i k && decide (ag i = x)
def refClk (k : Nat) : Clk:=(List.range k).foldl (fun c i => if bef D i k then adv c (ag i) else c) (adv [] (ag k))
variable (pr : Nat → List Nat)
def JoinsTo (clk : Nat → Clk) (n : Nat) : Prop:=∀ k,k < n → clk k = adv (((pr k).map clk).foldl join []) (ag k)
end
end Go.Rc

namespace Go.Rc
structure Evt where
 ag : Int
 idx : Int
 kind : Int
 obj : Int
 mux : Int
 ent : Int
 ord : Int
 rd : Int
 wr : Int
 deriving DecidableEq,Inhabited
abbrev isVal (n : Int) : Prop:=-2147483648 ≤ n ∧ n ≤ 2147483647
def ordered (k : Int) : Bool:=decide (k = 1 ∨ k = 2 ∨ k = 3 ∨ k = 5 ∨ k = 6 ∨ k = 8)
def readsK (k : Int) : Bool:=decide (k = 1 ∨ k = 8 ∨ k = 5 ∨ k = 6)
def wroteK (k : Int) : Bool:=decide (k = 2 ∨ k = 3 ∨ k = 4 ∨ k = 5)
def objOk (e : Evt) : Bool :=
 if e.kind = 7 then decide (e.obj = 0)
 else if e.kind = 9 ∨ e.kind = 10 ∨ e.kind = 11 then decide (0 ≤ e.obj ∧ e.obj < 4)
 else if e.kind = 12 ∨ e.kind = 13 ∨ e.kind = 14 ∨ e.kind = 15 then decide (0 ≤ e.obj ∧ e.obj < 4)
 else if e.kind = 16 ∨ e.kind = 17 then decide (0 ≤ e.obj)
 else decide (0 ≤ e.obj ∧ e.obj < 8)
def resOk (e : Evt) : Bool :=
 if e.kind = 11 ∨ e.kind = 14 then decide (0 ≤ e.rd ∧ e.rd < 2)
 else if e.kind = 15 then decide (0 ≤ e.rd)
 else decide (isVal e.rd) && (readsK e.kind || decide (e.rd = 0))
def entOk (e : Evt) : Bool :=
 if e.kind = 1 ∨ e.kind = 8 then decide (-1 ≤ e.ent)
 else if e.kind = 3 ∨ e.kind = 4 then decide (0 ≤ e.ent)
 else decide (e.ent = -1)
def vld (e : Evt) : Bool :=
 decide (1 ≤ e.kind) && decide (e.kind ≤ 17) && decide (e.ag < 0 ↔ e.kind = 4) && decide (0 ≤ e.idx) && objOk e && resOk e && entOk e &&
 decide (0 ≤ e.ord) && decide (e.ord ≤ 2) && (ordered e.kind || decide (e.ord = 0)) && decide (isVal e.wr) && (wroteK e.kind || decide (e.wr = 0)) &&
 (if e.kind = 12 then decide (0 ≤ e.mux ∧ e.mux < 4) else decide (e.mux = -1))
def lst (p : Nat → Bool) : Nat → Option Nat
 | 0 => none
 | n + 1 => if p n then some n else lst p n
def thr (a : Int) : Int:=if a < 0 then -(a + 1) else a
def flu (t : Int) : Int:=if t < 0 then 0 else -t - 1
def Evt.reads (e : Evt) : Bool:=readsK e.kind
def Evt.writes (e : Evt) : Bool:=decide (e.kind = 2 ∨ e.kind = 5 ∨ e.kind = 4)
def Evt.puts (e : Evt) : Bool:=decide (e.kind = 2 ∨ e.kind = 3 ∨ e.kind = 5)
section
variable (e : Nat → Evt)
def isBuf (a t : Int) (i : Nat) : Bool:=(e i).kind == 3 && (e i).ag == a && (e i).ent == t
def bufd (n : Nat) (a t none : Int) : Int:=match lst (isBuf e a t) n with
 | some i => i
 | Option.none => none
def isWr (o : Int) (i : Nat) : Bool:=(e i).writes && (e i).obj == o
def src (i : Nat) : Int :=
 if (e i).reads = true then
  if 0 ≤ (e i).ent then bufd e i (e i).ag (e i).ent (-1)
  else match lst (isWr e (e i).obj) i with
   | none => -1
   | some w => if (e w).kind = 4 then bufd e w (thr (e w).ag) (e w).ent w else w
 else -2
def chain : Nat → Int → List Nat
 | 0,_ => []
 | f + 1,s => if s < 0 then [] else s.toNat :: if (e s.toNat).kind = 5 then chain f (src e s.toNat) else []
def acq (x : Evt) : Bool:=x.reads && decide (x.ord = 2)
def rel (x : Evt) : Bool:=x.puts && decide (x.ord = 2)
def rels (k : Nat) : List Nat:=if acq (e k) then (chain e k (src e k)).filter fun i => rel (e i) else []
def withR (i k : Nat) : Bool:=rel (e i) && acq (e k) && (chain e k (src e k)).contains i
def mutexOf (x : Evt) : Int:=if x.kind = 9 ∨ x.kind = 10 ∨ x.kind = 11 then x.obj else x.mux
def condOf (x : Evt) : Int:=if x.kind = 12 ∨ x.kind = 13 ∨ x.kind = 14 ∨ x.kind = 15 then x.obj else -1
def direct (i k : Nat) : Bool :=
 decide ((e i).ag = (e k).ag) || (decide (0 ≤ mutexOf (e i)) && decide (mutexOf (e i) = mutexOf (e k))) || (decide (0 ≤ condOf (e i)) && decide (condOf (e i) = condOf (e k))) ||
 (decide ((e i).kind = 16) && (decide ((e i).obj = (e k).ag) || (decide ((e k).kind = 17) && decide ((e i).obj = (e k).obj)))) || (decide ((e k).kind = 17) && decide ((e k).obj = (e i).ag)) ||
 (decide ((e i).kind = 3) && decide ((e k).kind = 4) && decide ((e k).ag = flu (e i).ag) && decide ((e i).ent = (e k).ent)) ||
 withR e i k
def objs (x : Evt) : List (Int × Int) :=
 if x.kind = 9 ∨ x.kind = 10 ∨ x.kind = 11 then [(2,x.obj)]
 else if x.kind = 12 then [(2,x.mux),(3,x.obj)]
 else if x.kind = 13 ∨ x.kind = 14 ∨ x.kind = 15 then [(3,x.obj)]
 else []
def lastAg (a : Int) (k : Nat) : Option Nat:=lst (fun i => decide ((e i).ag = a)) k
def lastOb (o : Int × Int) (k : Nat) : Option Nat:=lst (fun i => (objs (e i)).contains o) k
def spawned (a : Int) (k : Nat) : List Nat:=(List.range k).filter fun i => decide ((e i).kind = 16) && decide ((e i).obj = a)
def buffs (x : Evt) (k : Nat) : List Nat:=(List.range k).filter fun i => isBuf e (thr x.ag) x.ent i
def special (k : Nat) : List Nat :=
 if (e k).kind = 17 then (lastAg e (e k).obj k).toList ++ spawned e (e k).obj k
 else if (e k).kind = 4 then buffs e (e k) k
 else []
def preds (k : Nat) : List Nat :=
 (lastAg e (e k).ag k).toList ++ ((objs (e k)).flatMap fun o => (lastOb e o k).toList) ++ spawned e (e k).ag k ++ special e k ++ rels e k
variable {e}
end
end Go.Rc

namespace Go.Ex
open Go.Rc
abbrev Str:=List UInt8
structure In where
 op : Int
 a : Int
 b : Int
 c : Int
 o : Int
 n : Int
 f : Int
 r : Int
 deriving DecidableEq,Inhabited
structure Pg where
 vs : List (Str × Int)
 ms : List Str
 cs : List Str
 fs : List (Str × List In)
 ts : List (Int × Int)
def okV (n : Int) : Bool:=decide (-2147483648 ≤ n) && decide (n ≤ 2147483647)
theorem okV_iff {n : Int} : okV n = true ↔ isVal n:=by simp [okV,isVal]
def fst0 : List Int → Int
 | [] => 0
 | e :: r => if e = 0 then fst0 r else e
def ut : List (List Bool) :=
 let t:=true; let f:=false
 [[t,f,f,f,t,f,f],[t,t,f,f,f,f,f],[t,t,t,f,f,t,f],[f,f,f,f,t,f,f],[f,t,f,f,t,f,f],[f,t,f,f,f,f,f],[f,f,f,f,f,f,f],
  [t,f,f,t,f,f,t],[f,t,f,t,f,f,t],[t,t,f,t,f,f,t],[t,t,f,t,f,f,t],[t,t,t,t,f,f,t],[f,f,f,f,f,f,f],[t,t,f,t,f,t,t],
  [f,f,f,t,f,f,f],[f,f,f,t,f,f,f],[t,f,f,t,f,f,f],[f,f,f,t,t,f,f],[f,f,f,t,f,f,f],[f,f,f,t,f,f,f],[t,t,f,t,f,f,f],[f,t,f,f,f,f,f]]
def kn (op : Int) : Bool:=decide (1 ≤ op ∧ op ≤ 22)
def us (op : Int) : List Bool:=if kn op then (ut[(op - 1).toNat]?).getD [] else []
def uk (op : Int) (k : Nat) : Bool:=((us op)[k]?).getD false
def In.vals (i : In) : List Int:=[i.a,i.b,i.c,i.o,i.n,i.f,i.r]
def isReg (n : Int) : Bool:=decide (0 ≤ n ∧ n < 8)
def fldE : List Bool → List Int → Bool
 | [],_ => false
 | _,[] => false
 | u :: us,v :: vs => (!u && decide (v ≠ 0)) || fldE us vs
def chI (i : In) : Int :=
 if kn i.op = false then 8
 else if fldE (us i.op) i.vals = true then 9
 else if (uk i.op 0 && !isReg i.a || uk i.op 1 && !isReg i.b || uk i.op 2 && !isReg i.c) = true then 10
 else if (uk i.op 6 && !decide (0 ≤ i.r ∧ i.r ≤ 2)) = true then 13
 else if (uk i.op 5 && !decide (1 ≤ i.f ∧ i.f ≤ 10)) = true then 8
 else if i.op = 1 ∧ ¬ isVal i.n then 2
 else 0
def vis (op : Int) : Bool:=decide (8 ≤ op ∧ op ≤ 22)
def drn (op : Int) : Bool:=vis op && decide (op ≠ 8) && decide (op ≠ 9) && decide (op ≠ 14)
def dfn (i : In) : Option Int:=if chI i = 0 ∧ uk i.op 0 = true then some i.a else none
def letr (c : UInt8) : Bool:=decide (97 ≤ c.toNat ∧ c.toNat ≤ 122 ∨ 65 ≤ c.toNat ∧ c.toNat ≤ 90)
def lett (c : UInt8) : Bool:=letr c || decide (c.toNat = 95 ∨ 48 ≤ c.toNat ∧ c.toNat ≤ 57)
def nmOk (s : Str) : Bool:=match s with
 | [] => false
 | c :: r => decide (s.length ≤ 16) && letr c && r.all lett
def nms : List Str → List Str → Int
 | _,[] => 0
 | pre,s :: r => if nmOk s = false then 6 else if s ∈ pre then 7 else nms (pre ++ [s]) r
def nob (p : Pg) (op : Int) : Int :=
 if op = 8 ∨ op = 9 ∨ op = 10 ∨ op = 11 ∨ op = 12 ∨ op = 14 then p.vs.length
 else if op = 15 ∨ op = 16 ∨ op = 17 then p.ms.length
 else if op = 18 ∨ op = 19 ∨ op = 20 then p.cs.length
 else if op = 21 then p.fs.length
 else -1
def insE (p : Pg) (len : Nat) (i : In) : Int :=
 if chI i ≠ 0 then chI i
 else if 0 ≤ nob p i.op ∧ ¬ (0 ≤ i.o ∧ i.o < nob p i.op) then 11
 else if i.op = 18 ∧ ¬ (0 ≤ i.n ∧ i.n < p.ms.length) then 11
 else if (i.op = 4 ∨ i.op = 5) ∧ ¬ (0 ≤ i.n ∧ i.n ≤ len) then 12
 else 0
def funE (p : Pg) (f : Str × List In) : Int:=if 64 < f.2.length then 4 else fst0 (f.2.map (insE p f.2.length))
def limE (p : Pg) : Int:=if 8 < p.vs.length ∨ 4 < p.ms.length ∨ 4 < p.cs.length ∨ 8 < p.fs.length then 4 else 0
def iniE (p : Pg) : Int:=if p.vs.all (fun v => okV v.2) = true then 0 else 2
def stE (p : Pg) (t : Int × Int) : Int:=if ¬ (0 ≤ t.1 ∧ t.1 < (p.fs.length : Int)) then 11 else if okV t.2 = false then 2 else 0
def thrE (p : Pg) : Int :=
 if p.ts.length < 1 ∨ 8 < p.ts.length then 4 else fst0 (p.ts.map (stE p))
def nmsE (p : Pg) : Int:=fst0 [nms [] (p.vs.map (·.1)),nms [] p.ms,nms [] p.cs,nms [] (p.fs.map (·.1))]
def codE (p : Pg) : Int:=fst0 (p.fs.map (funE p))
def chP (p : Pg) : Int:=fst0 [nmsE p,limE p,iniE p,codE p,thrE p]
end Go.Ex

namespace Go.Ex
open Go.Rc
structure Th where
 id : Int
 fn : Int
 pc : Int
 rg : Nat → Int
 st : Int
 ch : Int
 ph : Int
 ss : Int
 ft : Int
 hd : List Int
 deriving Inhabited
def w32 (n : Int) : Int:=if n % 4294967296 ≥ 2147483648 then n % 4294967296 - 4294967296 else n % 4294967296
theorem w32_val {n : Int} : w32 n = n ↔ isVal n:=by unfold w32 isVal; split <;> omega
theorem w32_isVal (n : Int) : isVal (w32 n):=by unfold w32 isVal; split <;> omega
def tr (b : Bool) : Int:=if b then 1 else 0
def bitw (f : Nat → Nat → Nat) (x y : Int) : Int:=w32 (f (x % 4294967296).toNat (y % 4294967296).toNat : Nat)
def appF (f a b : Int) : Int :=
 let x:=w32 a; let y:=w32 b
 if f = 1 then w32 (x + y) else if f = 2 then w32 (x - y) else if f = 3 then w32 (x * y)
 else if f = 4 then bitw (· &&& ·) x y else if f = 5 then bitw (· ||| ·) x y else if f = 6 then bitw (· ^^^ ·) x y
 else if f = 7 then tr (decide (x = y)) else if f = 8 then tr (decide (x ≠ y)) else if f = 9 then tr (decide (x < y)) else if f = 10 then tr (decide (x ≤ y))
 else 0
def appE (f : Int) : Int:=if 1 ≤ f ∧ f ≤ 10 then 0 else 8
def dpt : Nat → Int → Option Nat
 | 0,_ => none
 | k + 1,id => if id < 8 then some 0 else if 7 ≤ id % 8 then none else (dpt k (id / 8 - 1)).map (· + 1)
def dep (id : Int) : Option Nat:=if id < 0 then none else dpt 5 id
def chd (t : Th) : Option Int:=match dep t.id with
 | some d => if d = 4 ∨ t.ch < 0 ∨ 7 ≤ t.ch then none else some (8 * (t.id + 1) + t.ch)
 | none => none
def fndT : List Th → Int → Option Nat
 | [],_ => none
 | t :: r,id => if t.id = id then some 0 else (fndT r id).map (· + 1)
def incr : List Int → Bool
 | a :: b :: r => decide (a < b) && incr (b :: r)
 | _ => true
def ins (n : Int) : List Int → List Int
 | [] => [n]
 | a :: r => if n < a then n :: a :: r else if n = a then a :: r else a :: ins n r
def del (n : Int) (l : List Int) : List Int:=l.filter fun x => decide (x ≠ n)
def mkS (l : List Int) : List Int:=l.foldl (fun s n => ins n s) []
def codeT (p : Pg) (t : Th) : List In:=((p.fs[t.fn.toNat]?).map (·.2)).getD []
def insT (p : Pg) (t : Th) : Option In:=(codeT p t)[t.pc.toNat]?
def reg (t : Th) (k : Int) : Int:=t.rg k.toNat
def frmT (p : Pg) (bd : Int) (t : Th) : Bool :=
 match dep t.id with
 | none => false
 | some d =>
  decide (0 ≤ t.fn ∧ t.fn < p.fs.length) && decide (0 ≤ t.pc ∧ t.pc ≤ (codeT p t).length) && (List.range 8).all (fun j => okV (t.rg j)) &&
  decide (0 ≤ t.st ∧ t.st ≤ bd) && decide (0 ≤ t.ch ∧ t.ch ≤ 7) && (decide (d ≠ 4) || decide (t.ch = 0)) && incr t.hd &&
  t.hd.all (fun m => decide (0 ≤ m ∧ m < p.ms.length)) &&
  (decide (t.ph = 0) || (decide (t.ph = 1 ∨ t.ph = 2) && match insT p t with
   | none => false
   | some i => decide (i.op = 18) && !t.hd.contains i.n))
def obs (t : Th) (i : In) : Int :=
 if t.ph ≠ 0 then 0
 else if i.op = 18 then (if t.hd.contains i.n then 0 else 27)
 else if i.op = 16 then (if t.hd.contains i.o then 0 else 27)
 else if i.op = 21 then (if (chd t).isSome then 0 else 28)
 else 0
def setR (t : Th) (k v : Int) : Th:={ t with rg:=fun j => if j = k.toNat then v else t.rg j }
def endT (t : Th) (s f : Int) : Th:={ t with ss:=s,ft:=f }
def locT (t : Th) (i : In) : Th × Bool :=
 if i.op = 1 then ({ setR t i.a i.n with pc:=t.pc + 1 },true)
 else if i.op = 2 then ({ setR t i.a (reg t i.b) with pc:=t.pc + 1 },true)
 else if i.op = 3 then ({ setR t i.a (appF i.f (reg t i.b) (reg t i.c)) with pc:=t.pc + 1 },true)
 else if i.op = 4 then ({ t with pc:=i.n },true)
 else if i.op = 5 then ({ t with pc:=if reg t i.b = 0 then t.pc + 1 else i.n },true)
 else if i.op = 6 then (if reg t i.b = 0 then (endT t 3 26,false) else ({ t with pc:=t.pc + 1 },true))
 else if i.op = 7 then (endT t 2 0,false)
 else ({ t with pc:=t.pc + 1 },true)
def setl (p : Pg) (bd : Int) : Nat → Th → Th
 | k,t => match insT p t with
  | none => endT t 2 0
  | some i =>
   if vis i.op = true then (if obs t i ≠ 0 then endT t 3 (obs t i) else if t.st = bd then endT t 4 0 else t)
   else match k with
    | 0 => endT t 3 29
    | k + 1 => match locT t i with
     | (t',true) => setl p bd k t'
     | (t',false) => t'
def zTh (id fn arg : Int) : Th:=⟨id,fn,0,fun j => if j = 0 then arg else 0,0,0,0,1,0,[]⟩
def stdE (p : Pg) (bd : Int) : Int:=if chP p ≠ 0 then chP p else if bd < 1 ∨ 32 < bd then 2 else 0
def newE (p : Pg) (bd id fn arg : Int) : Int :=
 if stdE p bd ≠ 0 then stdE p bd else if dep id = none then 2 else if ¬ (0 ≤ fn ∧ fn < p.fs.length) then 11 else if okV arg = false then 2 else 0
def newT (p : Pg) (bd id fn arg : Int) : Th:=setl p bd 256 (zTh id fn arg)
def okT (p : Pg) (bd : Int) (t : Th) : Bool :=
 frmT p bd t && match insT p t with
 | none => decide (t.ss = 2) && decide (t.ft = 0) && decide (t.ph = 0)
 | some i =>
  if t.ss = 1 ∨ t.ss = 4 then decide (t.ft = 0) && vis i.op && decide (obs t i = 0) && (decide (t.ss = 1 ∧ t.st < bd) || decide (t.ss = 4 ∧ 1 ≤ t.st))
  else if t.ss = 2 then decide (t.ft = 0) && decide (t.ph = 0) && decide (i.op = 7)
  else if t.ss = 3 then decide (t.ph = 0) && (if t.ft = 26 then decide (i.op = 6) && decide (reg t i.b = 0) else if t.ft = 29 then !vis i.op else decide (t.ft ≠ 0) && decide (obs t i = t.ft))
  else false
def penT (p : Pg) (t : Th) : Option In:=if t.ss = 1 ∧ okT p 32 t = true then insT p t else none
def waitT (t : Th) (m : Int) : Th :=
 if t.ph = 0 then { t with hd:=del m t.hd,ph:=1 } else if t.ph = 1 then { t with ph:=2 } else { t with hd:=ins m t.hd,ph:=0,pc:=t.pc + 1 }
def nxtT (t : Th) (i : In) (v : Int) : Th :=
 let t1 : Th:={ t with st:=t.st + 1 }
 let t2 : Th:=match dfn i with
  | some a => setR t1 a v
  | none => t1
 if i.op = 18 then waitT t2 i.n
 else
  let t3 : Th:=if i.op = 17 ∧ v = 0 then t2 else if i.op = 17 ∨ i.op = 15 then { t2 with hd:=ins i.o t2.hd } else if i.op = 16 then { t2 with hd:=del i.o t2.hd } else if i.op = 21 then { t2 with ch:=t2.ch + 1 } else t2
  { t3 with pc:=t3.pc + 1 }
def cmpE (p : Pg) (bd : Int) (t : Th) (v : Int) : Int :=
 if stdE p bd ≠ 0 then stdE p bd else if okT p bd t = false then 1 else if t.ss ≠ 1 then 30 else if okV v = false then 2 else 0
def cmpT (p : Pg) (bd : Int) (t : Th) (v : Int) : Th:=match insT p t with
 | some i => setl p bd 256 (nxtT t i v)
 | none => t
end Go.Ex

namespace Go.Ex
open Go.Rc
structure Me where
 va : List Int
 ow : List Int
 qu : List (List Int)
 sg : List Int
 deriving DecidableEq,Inhabited
structure Bu where
 t : Int
 f : Int
 es : List (Int × Int)
 deriving DecidableEq,Inhabited
structure Sa where
 th : List Th
 me : Me
 bu : List Bu
 deriving Inhabited
def frmM (m : Me) : Bool :=
 decide (m.va.length ≤ 8 ∧ m.ow.length ≤ 4 ∧ m.qu.length ≤ 4) && incr m.sg && m.va.all (fun v => okV v) && m.ow.all (fun o => decide (-1 ≤ o)) &&
 (m.sg ++ m.qu.flatten).all (fun i => decide (0 ≤ i)) && decide (m.sg ++ m.qu.flatten).Nodup
def newM (p : Pg) : Me:=⟨p.vs.map (·.2),p.ms.map fun _ => -1,p.cs.map fun _ => [],[]⟩
def valM (p : Pg) (m : Me) : Bool:=decide (chP p = 0) && frmM m && decide (m.va.length = p.vs.length ∧ m.ow.length = p.ms.length ∧ m.qu.length = p.cs.length)
def inE (m : Me) (i : Int) (n : Nat) : Int:=if frmM m = false then 1 else if i < 0 ∨ n ≤ i then 11 else 0
def geti (l : List Int) (i : Int) : Int:=(l[i.toNat]?).getD 0
def getq (m : Me) (c : Int) : List Int:=(m.qu[c.toNat]?).getD []
def freM (m : Me) (i : Int) : Bool:=decide (inE m i m.ow.length = 0) && decide (geti m.ow i = -1)
def wrE (m : Me) (x v : Int) : Int:=if inE m x m.va.length ≠ 0 then inE m x m.va.length else if okV v = false then 2 else 0
def wrM (m : Me) (x v : Int) : Me:={ m with va:=m.va.set x.toNat v }
def ownE (m : Me) (i id old : Int) : Int :=
 if inE m i m.ow.length ≠ 0 then inE m i m.ow.length else if id < 0 then 2 else if geti m.ow i ≠ old then 30 else 0
def ownM (m : Me) (i new : Int) : Me:={ m with ow:=m.ow.set i.toNat new }
def enqE (m : Me) (c id : Int) : Int :=
 if inE m c m.qu.length ≠ 0 then inE m c m.qu.length else if id < 0 then 2 else if m.qu.any (·.contains id) || m.sg.contains id then 30 else 0
def enqM (m : Me) (c id : Int) : Me:={ m with qu:=m.qu.set c.toNat (getq m c ++ [id]) }
def wakM (m : Me) (c : Int) (n : Nat) : Me:={ m with sg:=((getq m c).take n).foldl (fun s i => ins i s) m.sg,qu:=m.qu.set c.toNat ((getq m c).drop n) }
def wakE (m : Me) (id : Int) : Int:=if frmM m = false then 1 else if m.sg.contains id then 0 else 30
def wokM (m : Me) (id : Int) : Me:={ m with sg:=del id m.sg }
def valB (b : Bu) : Bool :=
 decide (0 ≤ b.t ∧ 0 ≤ b.f ∧ b.f ≤ 32 ∧ b.f + b.es.length ≤ 32) && b.es.all fun e => decide (0 ≤ e.1 ∧ e.1 < 8) && okV e.2
def lokL : List (Int × Int) → Int → Option (Int × Nat)
 | [],_ => none
 | e :: r,x => match lokL r x with
  | some (v,k) => some (v,k + 1)
  | none => if e.1 = x then some (e.2,0) else none
def lokB (b : Bu) (x : Int) : Option (Int × Int):=(lokL b.es x).map fun p => (p.1,b.f + p.2)
def fndB : List Bu → Int → Option Nat
 | [],_ => none
 | b :: r,id => if b.t = id then some 0 else (fndB r id).map (· + 1)
def srtT : List Th → Bool
 | a :: b :: r => decide (a.id < b.id) && srtT (b :: r)
 | _ => true
def valS (p : Pg) (bd : Int) (s : Sa) : Bool:=valM p s.me && s.bu.isEmpty && s.th.all (okT p bd) && srtT s.th
def strS (p : Pg) (bd : Int) : Sa:=⟨(p.ts.zipIdx).map fun t => newT p bd t.2 t.1.1 t.1.2,newM p,[]⟩
def accL (s : Sa) (t : Th) (i : In) : Evt :=
 let v:=geti s.me.va i.o
 let e : Evt:=⟨t.id,t.st,5,i.o,-1,-1,i.r,v,0⟩
 if i.op = 8 then { e with kind:=1 }
 else if i.op = 14 then { e with kind:=8 }
 else if i.op = 9 then { e with kind:=2,rd:=0,wr:=reg t i.b }
 else if i.op = 10 then { e with wr:=reg t i.b }
 else if i.op = 11 then { e with wr:=appF 1 v (reg t i.b) }
 else if v = reg t i.b then { e with wr:=reg t i.c } else { e with kind:=6 }
def labS (s : Sa) (t : Th) (i : In) : Evt :=
 let e : Evt:=⟨t.id,t.st,0,i.o,-1,-1,0,0,0⟩
 if i.op = 13 then { e with kind:=7 }
 else if i.op = 15 then { e with kind:=9 }
 else if i.op = 16 then { e with kind:=10 }
 else if i.op = 17 then { e with kind:=11,rd:=tr (freM s.me i.o) }
 else if i.op = 18 then (if t.ph = 0 then { e with kind:=12,mux:=i.n } else if t.ph = 1 then { e with kind:=13 } else { e with kind:=9,obj:=i.n })
 else if i.op = 19 then { e with kind:=14,rd:=min 1 ((getq s.me i.o).length : Int) }
 else if i.op = 20 then { e with kind:=15,rd:=(getq s.me i.o).length }
 else if i.op = 21 then { e with kind:=16,obj:=(chd t).getD 0 }
 else if i.op = 22 then { e with kind:=17,obj:=reg t i.b }
 else accL s t i
def enaS (s : Sa) (t : Th) (i : In) : Bool :=
 if i.op = 14 then decide (appF i.f (geti s.me.va i.o) (reg t i.b) ≠ 0)
 else if i.op = 15 then freM s.me i.o
 else if i.op = 18 then (if t.ph = 1 then s.me.sg.contains t.id else if t.ph = 2 then freM s.me i.n else true)
 else if i.op = 22 then (match fndT s.th (reg t i.b) with
  | some k => match s.th[k]? with
   | some u => decide (u.ss = 2 ∨ u.ss = 3)
   | none => false
  | none => false)
 else true
def agsS (p : Pg) (s : Sa) : List Int:=s.th.filterMap fun t => match penT p t with
 | some i => if enaS s t i then some t.id else none
 | none => none
def effE (m : Me) (t : Th) (e : Evt) : Int :=
 if e.kind = 5 ∨ e.kind = 2 then wrE m e.obj e.wr
 else if e.kind = 11 ∧ e.rd = 0 then 0
 else if e.kind = 11 ∨ e.kind = 9 then ownE m e.obj t.id (-1)
 else if e.kind = 10 then ownE m e.obj t.id t.id
 else if e.kind = 12 then (if ownE m e.mux t.id t.id ≠ 0 then ownE m e.mux t.id t.id else enqE (ownM m e.mux (-1)) e.obj t.id)
 else if e.kind = 13 then wakE m t.id
 else if e.kind = 14 ∨ e.kind = 15 then inE m e.obj m.qu.length
 else 0
def effM (m : Me) (t : Th) (e : Evt) : Me :=
 if e.kind = 5 ∨ e.kind = 2 then wrM m e.obj e.wr
 else if e.kind = 11 ∧ e.rd = 0 then m
 else if e.kind = 11 ∨ e.kind = 9 then ownM m e.obj t.id
 else if e.kind = 10 then ownM m e.obj (-1)
 else if e.kind = 12 then enqM (ownM m e.mux (-1)) e.obj t.id
 else if e.kind = 13 then wokM m t.id
 else if e.kind = 14 then wakM m e.obj (min 1 (getq m e.obj).length)
 else if e.kind = 15 then wakM m e.obj (getq m e.obj).length
 else m
def resS (i : In) (e : Evt) : Int :=
 if e.kind = 5 then (if i.op = 12 then 1 else e.rd)
 else if e.kind = 1 ∨ e.kind = 8 then e.rd
 else if e.kind = 11 then (if e.rd = 0 then 0 else 1)
 else if e.kind = 16 then e.obj
 else 0
def putT (c : Th) : List Th → List Th
 | [] => [c]
 | t :: r => if t.id < c.id then t :: putT c r else c :: t :: r
def repT (t : Th) (l : List Th) : List Th:=match fndT l t.id with
 | some k => l.set k t
 | none => l
end Go.Ex

namespace Go.Ex
open Go.Rc
abbrev Res:=Int × Sa × Evt
def noEv : Evt:=⟨0,0,0,0,0,0,0,0,0⟩
def noSa : Sa:=⟨[],⟨[],[],[],[]⟩,[]⟩
def bad (e : Int) : Res:=(e,noSa,noEv)
def runS (p : Pg) (s : Sa) (a : Int) : Option (Nat × Th × In) :=
 match fndT s.th a with
 | none => none
 | some k => match s.th[k]? with
  | none => none
  | some t => match penT p t with
   | none => none
   | some i => some (k,t,i)
def stpS (p : Pg) (bd : Int) (s : Sa) (a : Int) : Res :=
 if stdE p bd ≠ 0 then bad (stdE p bd)
 else if valS p bd s = false then bad 1
 else match runS p s a with
 | none => bad 19
 | some (k,t,i) =>
  if enaS s t i = false then bad 19
  else
   let e:=labS s t i
   if effE s.me t e ≠ 0 then bad 30
   else
    let m:=effM s.me t e
    if e.kind = 16 ∧ (fndT s.th e.obj).isSome then bad 30
    else
     let th:=if e.kind = 16 then putT (newT p bd e.obj i.o (reg t i.b)) s.th else s.th
     (0,⟨repT (cmpT p bd t (resS i e)) th,m,[]⟩,e)
def valX (p : Pg) (bd : Int) (s : Sa) : Bool :=
 valM p s.me && decide (s.bu.length = s.th.length) && s.th.all (okT p bd) && srtT s.th && s.bu.all valB && decide (s.bu.map (·.t) = s.th.map (·.id)) &&
 s.bu.all fun b => b.es.all fun e => decide (e.1 < p.vs.length)
def part (s : Sa) : Sa:=⟨s.th,s.me,[]⟩
def see (s : Sa) (b : Bu) (x : Int) : Int × Int:=(lokB b x).getD (geti s.me.va x,-1)
def fls (id : Int) : Int:=if id < 0 then 0 else -id - 1
def thr (a : Int) : Int:=if a < 0 then -(a + 1) else a
def labX (s : Sa) (t : Th) (b : Bu) (i : In) : Evt :=
 let e : Evt:=⟨t.id,t.st,1,i.o,-1,0,i.r,0,0⟩
 if i.op = 8 then { e with rd:=(see s b i.o).1,ent:=(see s b i.o).2 }
 else if i.op = 14 then { e with kind:=8,rd:=(see s b i.o).1,ent:=(see s b i.o).2 }
 else if i.op = 9 then { e with kind:=3,wr:=reg t i.b,ent:=b.f + b.es.length }
 else labS (part s) t i
def flsX (t : Th) (b : Bu) : Option Evt:=match b.es with
 | [] => none
 | x :: _ => some ⟨fls t.id,b.f,4,x.1,-1,b.f,0,0,x.2⟩
def enaX (p : Pg) (s : Sa) (t : Th) (b : Bu) (i : In) : Bool :=
 if i.op = 8 ∨ i.op = 9 then true
 else if i.op = 14 then decide (appF i.f (see s b i.o).1 (reg t i.b) ≠ 0)
 else if (drn i.op = true ∧ b.es ≠ []) ∨ enaS (part s) t i = false then false
 else if i.op = 22 then (match fndB s.bu (reg t i.b) with
  | some k => match s.bu[k]? with
   | some c => c.es.isEmpty
   | none => false
  | none => false)
 else true
def agsX (p : Pg) (s : Sa) : List Int :=
 (s.bu.reverse.filterMap fun b => if b.es.isEmpty then none else some (fls b.t)) ++
 (s.th.zip s.bu).filterMap fun q => match penT p q.1 with
  | some i => if enaX p s q.1 q.2 i then some q.1.id else none
  | none => none
def stpX (p : Pg) (bd : Int) (s : Sa) (a : Int) : Res :=
 if stdE p bd ≠ 0 then bad (stdE p bd)
 else if valX p bd s = false then bad 1
 else if (agsX p s).contains a = false then bad 19
 else match fndT s.th (thr a) with
 | none => bad 19
 | some k => match s.th[k]?,s.bu[k]? with
  | some t,some b =>
   if a < 0 then (match flsX t b with
    | none => bad 19
    | some e => (0,⟨s.th,wrM s.me e.obj e.wr,s.bu.set k ⟨b.t,b.f + 1,b.es.tail⟩⟩,e))
   else match penT p t with
    | none => bad 19
    | some i =>
     let e:=labX s t b i
     if i.op = 8 ∨ i.op = 14 then (0,⟨s.th.set k (cmpT p bd t e.rd),s.me,s.bu⟩,e)
     else if i.op = 9 then (if b.f + b.es.length = 32 then bad 30 else (0,⟨s.th.set k (cmpT p bd t 0),s.me,s.bu.set k ⟨b.t,b.f,b.es ++ [(e.obj,e.wr)]⟩⟩,e))
     else
      let r:=stpS p bd (part s) a
      if r.1 ≠ 0 then r
      else (0,⟨r.2.1.th,r.2.1.me,r.2.1.th.map fun u => match fndB s.bu u.id with
       | some j => (s.bu[j]?).getD ⟨u.id,0,[]⟩
       | none => ⟨u.id,0,[]⟩⟩,r.2.2)
  | _,_ => bad 19
structure Cf where
 md : Int
 bd : Int
def cfE (c : Cf) : Int:=if ¬ (c.md = 1 ∨ c.md = 2 ∨ c.md = 3) then 18 else if c.bd < 1 ∨ 32 < c.bd then 2 else 0
def chE (p : Pg) (c : Cf) : Int:=if chP p ≠ 0 then chP p else if cfE c ≠ 0 then cfE c else if c.md = 3 then 18 else 0
def strX (p : Pg) (c : Cf) : Sa:=let s:=strS p c.bd; if c.md = 2 then { s with bu:=s.th.map fun t => ⟨t.id,0,[]⟩ } else s
def stp (p : Pg) (c : Cf) (s : Sa) (a : Int) : Res:=if c.md = 2 then stpX p c.bd s a else stpS p c.bd s a
def ags (p : Pg) (c : Cf) (s : Sa) : List Int:=if c.md = 2 then (if valX p 32 s then agsX p s else []) else if valS p 32 s then agsS p s else []
def run (p : Pg) (c : Cf) : List Int → List Evt → Sa → Int × List Evt × Sa
 | [],es,s => (0,es,s)
 | a :: r,es,s => if (stp p c s a).1 ≠ 0 then ((stp p c s a).1,[],noSa) else run p c r (es ++ [(stp p c s a).2.2]) (stp p c s a).2.1
def runE (p : Pg) (c : Cf) (l : List Int) : Int × List Evt × Sa :=
 if chE p c ≠ 0 then (chE p c,[],noSa) else if 512 < l.length then (4,[],noSa) else run p c l [] (strX p c)
end Go.Ex

namespace Go.Ex
open Go.Am Go.Rc
abbrev N (n : Int) : Dat:=.int .i64 n
abbrev S (s : Str) : Dat:=.str s
abbrev Ns (l : List Int) : Dat:=.sl (l.map N)
def NP (p : Int × Int) : Dat:=.agg [N p.1,N p.2]
def VD (v : Str × Int) : Dat:=.agg [.str v.1,N v.2]
def IDl (i : In) : List Dat:=[N i.op,N i.a,N i.b,N i.c,N i.o,N i.n,N i.f,N i.r]
abbrev ID (i : In) : Dat:=.agg (IDl i)
def FD (f : Str × List In) : Dat:=.agg [.str f.1,.sl (f.2.map ID)]
abbrev PDl (p : Pg) : List Dat:=[.sl (p.vs.map VD),.sl (p.ms.map S),.sl (p.cs.map S),.sl (p.fs.map FD),.sl (p.ts.map NP)]
abbrev PD (p : Pg) : Dat:=.agg (PDl p)
def RL (t : Th) : List Dat:=(List.range 8).map fun j => N (t.rg j)
def TDl (t : Th) : List Dat:=[N t.id,N t.fn,N t.pc] ++ RL t ++ [N t.st,N t.ch,N t.ph,N t.ss,N t.ft,Ns t.hd]
abbrev TD (t : Th) : Dat:=.agg (TDl t)
abbrev MDl (m : Me) : List Dat:=[Ns m.va,Ns m.ow,.sl (m.qu.map Ns),Ns m.sg]
abbrev MD (m : Me) : Dat:=.agg (MDl m)
def BD (b : Bu) : Dat:=.agg [N b.t,N b.f,.sl (b.es.map NP)]
abbrev SDl (s : Sa) : List Dat:=.sl (s.th.map TD) :: MDl s.me ++ [.sl (s.bu.map BD)]
abbrev SD (s : Sa) : Dat:=.agg (SDl s)
abbrev EDl (e : Evt) : List Dat:=[N e.ag,N e.idx,N e.kind,N e.obj,N e.mux,N e.ent,N e.ord,N e.rd,N e.wr]
abbrev ED (e : Evt) : Dat:=.agg (EDl e)
@[simp] theorem IDl_len (i : In) : (IDl i).length = 8:=rfl
@[simp] theorem IDl_0 (i : In) : (IDl i)[0]? = some (N i.op):=rfl
@[simp] theorem IDl_1 (i : In) : (IDl i)[1]? = some (N i.a):=rfl
@[simp] theorem IDl_2 (i : In) : (IDl i)[2]? = some (N i.b):=rfl
@[simp] theorem IDl_3 (i : In) : (IDl i)[3]? = some (N i.c):=rfl
@[simp] theorem IDl_4 (i : In) : (IDl i)[4]? = some (N i.o):=rfl
@[simp] theorem IDl_5 (i : In) : (IDl i)[5]? = some (N i.n):=rfl
@[simp] theorem IDl_6 (i : In) : (IDl i)[6]? = some (N i.f):=rfl
@[simp] theorem IDl_7 (i : In) : (IDl i)[7]? = some (N i.r):=rfl
@[simp] theorem RL_len (t : Th) : (RL t).length = 8:=by simp [RL]
theorem RL_get (t : Th) {j : Nat} (h : j < 8) : (RL t)[j]? = some (N (t.rg j)):=by
 unfold RL
 rw [List.getElem?_map,List.getElem?_range h]
 rfl
@[simp] theorem TDl_len (t : Th) : (TDl t).length = 17:=by simp [TDl]
@[simp] theorem TDl_0 (t : Th) : (TDl t)[0]? = some (N t.id):=rfl
@[simp] theorem TDl_1 (t : Th) : (TDl t)[1]? = some (N t.fn):=rfl
@[simp] theorem TDl_2 (t : Th) : (TDl t)[2]? = some (N t.pc):=rfl
@[simp] theorem TDl_11 (t : Th) : (TDl t)[11]? = some (N t.st):=rfl
@[simp] theorem TDl_12 (t : Th) : (TDl t)[12]? = some (N t.ch):=rfl
@[simp] theorem TDl_13 (t : Th) : (TDl t)[13]? = some (N t.ph):=rfl
@[simp] theorem TDl_14 (t : Th) : (TDl t)[14]? = some (N t.ss):=rfl
@[simp] theorem TDl_15 (t : Th) : (TDl t)[15]? = some (N t.ft):=rfl
@[simp] theorem TDl_16 (t : Th) : (TDl t)[16]? = some (Ns t.hd):=rfl
@[simp] theorem TDl_rg (t : Th) : ((TDl t).drop 3).take 8 = RL t:=rfl
theorem zrb7 (t : Th) {j : Nat} (h : j < 8) : (TDl t)[3 + j]? = some (N (t.rg j)):=by
 unfold TDl
 rw [List.getElem?_append_left (by simp; omega),List.getElem?_append_right (by simp)]
 simpa using RL_get t h
@[simp] theorem wID (i : In) : (ID i).width = 8:=rfl
@[simp] theorem wFD (f : Str × List In) : (FD f).width = 2:=rfl
@[simp] theorem wVD (v : Str × Int) : (VD v).width = 2:=rfl
@[simp] theorem wNP (p : Int × Int) : (NP p).width = 2:=rfl
@[simp] theorem wTD (t : Th) : (TD t).width = 17:=TDl_len t
@[simp] theorem wBD (b : Bu) : (BD b).width = 3:=rfl
end Go.Ex
namespace Go.Ex
open Go.Am Go.Rc
section
variable [Glob]
theorem decLs_dat (T : TLook) : ∀ {l : List Dat},(∀ d ∈ l,d.isAgg = false) → decLsT T (l.map AVal.dat) = some (l,[])
 | [],_ => rfl
 | d :: r,h => by
  have ih:=decLs_dat (updT T []) (l:=r) fun x hx => h x (by simp [hx])
  simp only [List.map_cons,decLsT,decT,ih,h d (by simp)]
  simp
theorem ids_dat : ∀ l : List Dat,AVal.idsL (l.map AVal.dat) = []
 | [] => rfl
 | d :: r => by simp [AVal.idsL,AVal.ids,ids_dat r]
theorem ren_dat (f : Am.Id → Am.Id) : ∀ l : List Dat,AVal.renL f (l.map AVal.dat) = l.map AVal.dat
 | [] => rfl
 | d :: r => by simp [AVal.renL,AVal.ren,ren_dat f r]
def TDc (t : Th) : List AVal:=(TDl t).map AVal.dat
theorem TDl_noagg (t : Th) : ∀ d ∈ TDl t,d.isAgg = false:=by
 intro d hd
 simp only [TDl,RL,List.mem_append,List.mem_cons,List.not_mem_nil,or_false,List.mem_map] at hd
 rcases hd with ((rfl | rfl | rfl) | ⟨j,_,rfl⟩) | rfl | rfl | rfl | rfl | rfl | rfl <;> rfl
@[simp] theorem TDc_len (t : Th) : (TDc t).length = 17:=by simp [TDc]
@[simp] theorem TDc_get (t : Th) (k : Nat) : (TDc t)[k]? = ((TDl t)[k]?).map AVal.dat:=by simp [TDc]
@[simp] theorem TDc_rg (t : Th) : ((TDc t).drop 3).take 8 = (RL t).map AVal.dat:=by simp [TDc,← List.map_drop,← List.map_take]
@[simp] theorem TDc_leaf (t : Th) : (TDc t).all AVal.leaf = true:=by
 rw [List.all_eq_true]
 intro x hx
 obtain ⟨d,hd,rfl⟩:=List.mem_map.1 hx
 simp [TDl_noagg t d hd]
@[simp] theorem TDc_dec (T : TLook) (t : Th) : decLsT T (TDc t) = some (TDl t,[]):=decLs_dat T (TDl_noagg t)
@[simp] theorem TDc_ids (t : Th) : AVal.idsL (TDc t) = []:=ids_dat _
@[simp] theorem TDc_ren (f : Am.Id → Am.Id) (t : Th) : AVal.renL f (TDc t) = TDc t:=ren_dat f _
@[simp] theorem TDl_map (t : Th) : (TDl t).map AVal.dat = TDc t:=rfl
end
end Go.Ex

namespace Go.Ex
open Go.Am Go.Rc
variable [Glob]
theorem IDl_noagg (i : In) : ∀ d ∈ IDl i,d.isAgg = false:=by
 intro d hd
 unfold IDl at hd
 simp [List.range_succ] at hd
 rcases hd with rfl | rfl | rfl | rfl | rfl | rfl | rfl | rfl <;> rfl
def IDc (i : In) : List AVal:=(IDl i).map AVal.dat
@[simp] theorem IDc_len (i : In) : (IDc i).length = 8:=by simp [IDc]
@[simp] theorem IDc_get (i : In) (k : Nat) : (IDc i)[k]? = ((IDl i)[k]?).map AVal.dat:=by simp [IDc]
@[simp] theorem IDc_leaf (i : In) : (IDc i).all AVal.leaf = true:=by
 rw [List.all_eq_true]
 intro x hx
 obtain ⟨d,hd,rfl⟩:=List.mem_map.1 hx
 simp [IDl_noagg i d hd]
@[simp] theorem IDc_dec (T : TLook) (i : In) : decLsT T (IDc i) = some (IDl i,[]):=decLs_dat T (IDl_noagg i)
@[simp] theorem IDc_ids (i : In) : AVal.idsL (IDc i) = []:=ids_dat _
@[simp] theorem IDc_ren (f : Am.Id → Am.Id) (i : In) : AVal.renL f (IDc i) = IDc i:=ren_dat f _
@[simp] theorem IDl_map (i : In) : (IDl i).map AVal.dat = IDc i:=rfl
theorem RL_noagg (t : Th) : ∀ d ∈ RL t,d.isAgg = false:=by
 intro d hd
 unfold RL at hd
 simp [List.range_succ] at hd
 rcases hd with rfl | rfl | rfl | rfl | rfl | rfl | rfl | rfl <;> rfl
def RLc (t : Th) : List AVal:=(RL t).map AVal.dat
@[simp] theorem RLc_len (t : Th) : (RLc t).length = 8:=by simp [RLc]
@[simp] theorem RLc_get (t : Th) (k : Nat) : (RLc t)[k]? = ((RL t)[k]?).map AVal.dat:=by simp [RLc]
@[simp] theorem RLc_leaf (t : Th) : (RLc t).all AVal.leaf = true:=by
 rw [List.all_eq_true]
 intro x hx
 obtain ⟨d,hd,rfl⟩:=List.mem_map.1 hx
 simp [RL_noagg t d hd]
@[simp] theorem RLc_dec (T : TLook) (t : Th) : decLsT T (RLc t) = some (RL t,[]):=decLs_dat T (RL_noagg t)
@[simp] theorem RLc_ids (t : Th) : AVal.idsL (RLc t) = []:=ids_dat _
@[simp] theorem RLc_ren (f : Am.Id → Am.Id) (t : Th) : AVal.renL f (RLc t) = RLc t:=ren_dat f _
@[simp] theorem RL_map (t : Th) : (RL t).map AVal.dat = RLc t:=rfl
@[simp] theorem TDc_rg' (t : Th) : ((TDc t).drop 3).take 8 = RLc t:=rfl
@[simp] theorem TDc_s0 (t : Th) (v : Int) : splice (TDc t) 0 [.dat (N v)] = TDc { t with id:=v }:=rfl
@[simp] theorem TDc_s1 (t : Th) (v : Int) : splice (TDc t) 1 [.dat (N v)] = TDc { t with fn:=v }:=rfl
@[simp] theorem TDc_s2 (t : Th) (v : Int) : splice (TDc t) 2 [.dat (N v)] = TDc { t with pc:=v }:=rfl
@[simp] theorem TDc_s11 (t : Th) (v : Int) : splice (TDc t) 11 [.dat (N v)] = TDc { t with st:=v }:=rfl
@[simp] theorem TDc_s12 (t : Th) (v : Int) : splice (TDc t) 12 [.dat (N v)] = TDc { t with ch:=v }:=rfl
@[simp] theorem TDc_s13 (t : Th) (v : Int) : splice (TDc t) 13 [.dat (N v)] = TDc { t with ph:=v }:=rfl
@[simp] theorem TDc_s14 (t : Th) (v : Int) : splice (TDc t) 14 [.dat (N v)] = TDc { t with ss:=v }:=rfl
@[simp] theorem TDc_s15 (t : Th) (v : Int) : splice (TDc t) 15 [.dat (N v)] = TDc { t with ft:=v }:=rfl
@[simp] theorem IDl_g1 (i : In) (h : 1 < (IDl i).length) : (IDl i)[1] = N i.a:=rfl
@[simp] theorem IDc_g1 (i : In) (h : 1 < (IDc i).length) : (IDc i)[1] = .dat (N i.a):=rfl
@[simp] theorem IDl_g2 (i : In) (h : 2 < (IDl i).length) : (IDl i)[2] = N i.b:=rfl
@[simp] theorem IDc_g2 (i : In) (h : 2 < (IDc i).length) : (IDc i)[2] = .dat (N i.b):=rfl
@[simp] theorem IDl_g3 (i : In) (h : 3 < (IDl i).length) : (IDl i)[3] = N i.c:=rfl
@[simp] theorem IDc_g3 (i : In) (h : 3 < (IDc i).length) : (IDc i)[3] = .dat (N i.c):=rfl
@[simp] theorem IDl_g4 (i : In) (h : 4 < (IDl i).length) : (IDl i)[4] = N i.o:=rfl
@[simp] theorem IDc_g4 (i : In) (h : 4 < (IDc i).length) : (IDc i)[4] = .dat (N i.o):=rfl
@[simp] theorem IDl_g5 (i : In) (h : 5 < (IDl i).length) : (IDl i)[5] = N i.n:=rfl
@[simp] theorem IDc_g5 (i : In) (h : 5 < (IDc i).length) : (IDc i)[5] = .dat (N i.n):=rfl
@[simp] theorem IDl_g6 (i : In) (h : 6 < (IDl i).length) : (IDl i)[6] = N i.f:=rfl
@[simp] theorem IDc_g6 (i : In) (h : 6 < (IDc i).length) : (IDc i)[6] = .dat (N i.f):=rfl
@[simp] theorem IDl_g7 (i : In) (h : 7 < (IDl i).length) : (IDl i)[7] = N i.r:=rfl
@[simp] theorem IDc_g7 (i : In) (h : 7 < (IDc i).length) : (IDc i)[7] = .dat (N i.r):=rfl
@[simp] theorem IDl_g0 (i : In) (h : 0 < (IDl i).length) : (IDl i)[0] = N i.op:=rfl
@[simp] theorem IDc_g0 (i : In) (h : 0 < (IDc i).length) : (IDc i)[0] = .dat (N i.op):=rfl
@[simp] theorem TDl_g0 (t : Th) (h : 0 < (TDl t).length) : (TDl t)[0] = N t.id:=rfl
@[simp] theorem TDc_g0 (t : Th) (h : 0 < (TDc t).length) : (TDc t)[0] = .dat (N t.id):=rfl
@[simp] theorem TDl_g1 (t : Th) (h : 1 < (TDl t).length) : (TDl t)[1] = N t.fn:=rfl
@[simp] theorem TDc_g1 (t : Th) (h : 1 < (TDc t).length) : (TDc t)[1] = .dat (N t.fn):=rfl
@[simp] theorem TDl_g2 (t : Th) (h : 2 < (TDl t).length) : (TDl t)[2] = N t.pc:=rfl
@[simp] theorem TDc_g2 (t : Th) (h : 2 < (TDc t).length) : (TDc t)[2] = .dat (N t.pc):=rfl
@[simp] theorem TDl_g11 (t : Th) (h : 11 < (TDl t).length) : (TDl t)[11] = N t.st:=rfl
@[simp] theorem TDc_g11 (t : Th) (h : 11 < (TDc t).length) : (TDc t)[11] = .dat (N t.st):=rfl
@[simp] theorem TDl_g12 (t : Th) (h : 12 < (TDl t).length) : (TDl t)[12] = N t.ch:=rfl
@[simp] theorem TDc_g12 (t : Th) (h : 12 < (TDc t).length) : (TDc t)[12] = .dat (N t.ch):=rfl
@[simp] theorem TDl_g13 (t : Th) (h : 13 < (TDl t).length) : (TDl t)[13] = N t.ph:=rfl
@[simp] theorem TDc_g13 (t : Th) (h : 13 < (TDc t).length) : (TDc t)[13] = .dat (N t.ph):=rfl
@[simp] theorem TDl_g14 (t : Th) (h : 14 < (TDl t).length) : (TDl t)[14] = N t.ss:=rfl
@[simp] theorem TDc_g14 (t : Th) (h : 14 < (TDc t).length) : (TDc t)[14] = .dat (N t.ss):=rfl
@[simp] theorem TDl_g15 (t : Th) (h : 15 < (TDl t).length) : (TDl t)[15] = N t.ft:=rfl
@[simp] theorem TDc_g15 (t : Th) (h : 15 < (TDc t).length) : (TDc t)[15] = .dat (N t.ft):=rfl
@[simp] theorem TDl_g16 (t : Th) (h : 16 < (TDl t).length) : (TDl t)[16] = Ns t.hd:=rfl
@[simp] theorem TDc_g16 (t : Th) (h : 16 < (TDc t).length) : (TDc t)[16] = .dat (Ns t.hd):=rfl
@[simp] theorem TDc_s16 (t : Th) (v : List Int) : splice (TDc t) 16 [.dat (Ns v)] = TDc { t with hd:=v }:=rfl
theorem TDc_sr (t : Th) {k : Nat} (h : k < 8) (v : Int) : splice (TDc t) (3 + k) [.dat (N v)] = TDc { t with rg:=fun j => if j = k then v else t.rg j }:=by
 match k,h with
 | 0,_ | 1,_ | 2,_ | 3,_ | 4,_ | 5,_ | 6,_ | 7,_ => rfl
 | n + 8,h => exact absurd h (by omega)
end Go.Ex

set_option maxRecDepth 10000
namespace Go.Am.E
open Go.Proofs Go.Ex Go.Rc
theorem run234 (b : Bool) : K 234 [.dat (.bool b)] [] = some (.dat (N (tr b)),[]):=ce rfl (by cases b <;> simp [tr])
theorem run247 (n : Int) : K 247 [.dat (N n)] [] = some (.dat (.bool (kn n)),[]):=ce rfl (by simp [kn]; repeat' (split <;> simp [*]))
theorem run213 (n : Int) : K 213 [.dat (N n)] [] = some (.dat (.bool (vis n)),[]):=ce rfl (by simp [vis]; repeat' (split <;> simp [*]))
theorem run232 (n : Int) : K 232 [.dat (N n)] [] = some (.dat (.bool (drn n)),[]):=ce rfl (by simp [run213,drn]; repeat' (split <;> simp [*]))
theorem w32_cvt (n : Int) : IntKind.wrap .i64 (IntKind.wrap .i32 (n % 4294967296)) = w32 n:=by
 simp only [IntKind.wrap,IntKind.bits,IntKind.signed,w32]
 simp
 split <;> split <;> omega
theorem run140 (n : Int) : K 140 [.dat (N n)] [] = some (.dat (N (w32 n)),[]):=ce rfl (by simp [← w32_cvt])
theorem run248 (x : In) : K 248 [.dat (ID x)] [] = some (.dat (.agg (x.vals.map N)),[]):=ce rfl (by simp [In.vals,IDl])
end Go.Am.E

set_option maxRecDepth 10000
set_option maxHeartbeats 1000000
namespace Go.Am.E
open Go.Proofs Go.Ex Go.Rc
def nm10 : List Str:=[[97,100,100],[115,117,98],[109,117,108],[97,110,100],[111,114],[120,111,114],[101,113],[110,101],[108,116],[108,101]]
theorem glob2_eq : glob2 = nm10.map Dat.str:=rfl
def fnm (f : Int) : Str:=if 1 ≤ f ∧ f ≤ 10 then (nm10[(f - 1).toNat]?).getD [] else []
theorem nm10_get {k : Nat} (h : k < 10) : ∃ c s,nm10[k]? = some (c :: s):=by
 match k,h with
 | 0,_ | 1,_ | 2,_ | 3,_ | 4,_ | 5,_ | 6,_ | 7,_ | 8,_ | 9,_ => exact ⟨_,_,rfl⟩
theorem run249 (f : Int) : K 249 [.dat (N f)] [] = some (.dat (.str (fnm f)),[]):=ce rfl (by
 by_cases h : 1 ≤ f ∧ f ≤ 10
 ·obtain ⟨k,rfl,hk⟩ : ∃ k : Nat,f = (k : Int) + 1 ∧ k < 10:=⟨(f - 1).toNat,by omega,by omega⟩
  obtain ⟨c,s,hs⟩:=nm10_get hk
  have hw : IntKind.wrap .i64 (k : Int) = k:=wrap_i64 (by omega) (by omega)
  have h1 : ¬ (k : Int) + 1 < 1:=by omega
  have h2 : ¬ (10 : Int) < (k : Int) + 1:=by omega
  have h3 : (k : Int) + 1 ≤ 10:=by omega
  have h4 : k ≤ 10:=by omega
  have h5 : nm10.length = 10:=rfl
  have h6 : (k : Int) < 10:=by omega
  have h7 : 1 ≤ 10 - k:=by omega
  have hs2 : ∀ h : k < nm10.length,nm10[k] = c :: s:=fun h => (List.getElem?_eq_some_iff.1 hs).2
  simp [fnm,h1,h2,h3,h4,h5,h6,h7,hs2,hs,hk,hw,glob2_eq]
 ·simp [fnm,h]; repeat' (split <;> simp [*] <;> try omega))
theorem usg {op : Int} (h : kn op = true) : (glob1.drop ((op.toNat - 1) * 8 + 1)).take 7 = (us op).map Dat.bool ∧ (us op).length = 7 ∧ op.toNat - 1 < 22 ∧ 1 ≤ op ∧ op - 1 < 22:=by
 have : ∀ k,k < 22 → (glob1.drop (k * 8 + 1)).take 7 = (us (k + 1)).map Dat.bool ∧ (us (k + 1)).length = 7:=by
  intro k hk
  match k,hk with
  | 0,_ | 1,_ | 2,_ | 3,_ | 4,_ | 5,_ | 6,_ | 7,_ | 8,_ | 9,_ | 10,_ | 11,_ | 12,_ | 13,_ | 14,_ | 15,_ | 16,_ | 17,_ | 18,_ | 19,_ | 20,_ | 21,_ => exact ⟨rfl,rfl⟩
  | n + 22,h => exact absurd h (by omega)
 have hl : glob1.length = 176:=rfl
 simp only [kn,decide_eq_true_eq] at h
 have:=this (op.toNat - 1) (by omega)
 rw [show ((op.toNat - 1 : Nat) : Int) + 1 = op by omega] at this
 exact ⟨this.1,this.2,by omega,by omega,by omega⟩
def bx0 (x : In) (L : List Bool) : zta7:=[((2,0),.plain (.box (IDc x))),((4,0),.plain (.box (L.map fun b => .dat (.bool b))))]
abbrev e240 (n : Nat) (v : List Int) (k : Nat) : Env:=[(1,.ref ((2,0),0,0) 0),(3,.ref ((4,0),0,0) 0),(n,.dat (.agg (v.map N))),(n + 1,.dat (N k))]
theorem fld_loop (x : In) (L : List Bool) (hL : L.length = 7) (s : St) (hs : hd [1,3,19,20] [] s = some ⟨e240 19 x.vals 0,bx0 x L⟩) :
  Ev (zga7 (exec K l209_0) s) fun p => if fldE L x.vals = true then p.1 = .ret ∧ endK [.t 2] false 0 p = some (.dat (N 9),[]) else p.1 = .exit 0 ∧ hd [1,3] [] p.2 = some ⟨(e240 19 x.vals 0).take 2,bx0 x L⟩:=by
 have hv : x.vals.length = 7:=rfl
 refine ev_for 7 (fun k => ⟨e240 19 x.vals k,bx0 x L⟩) (fun k p => if fldE (L.drop k) (x.vals.drop k) = true then p.1 = .ret ∧ endK [.t 2] false 0 p = some (.dat (N 9),[]) else p.1 = .exit 0 ∧ hd [1,3] [] p.2 = some ⟨(e240 19 x.vals 0).take 2,bx0 x L⟩) (fun k s hk hs => ?_) (fun s hs => ?_) 7 0 s rfl hs
 ·obtain ⟨b,hb,hb2⟩:=zib7 L (i:=k) (by omega)
  obtain ⟨v,hx,hx2⟩:=zib7 x.vals (i:=k) (by omega)
  have h1 : (k : Int) < 7:=by omega
  have ix : Ix k:=by unfold Ix; omega
  cases b <;> by_cases hv0 : v = 0 <;> simp [hs,bx0,zec7 hb,zec7 hx,fldE,hb,hx,hb2,hx2,h1,ix,hk,hL,hv,hv0]
 ·have : L.drop 7 = []:=List.drop_of_length_le (by omega)
  simp [hs,bx0,this,fldE]
theorem isReg_eq (n : Int) : isReg n = (!decide (n < 0) && !decide (8 ≤ n)):=by
 unfold isReg
 rw [Bool.eq_iff_iff]; simp
abbrev e39 (x : In) (k : Nat) : Env:=[(1,.ref ((2,0),0,0) 0),(3,.ref ((4,0),0,0) 0),(39,.agg [.dat (N x.a),.dat (N x.b),.dat (N x.c)]),(40,.dat (N k))]
theorem reg_loop (x : In) (L : List Bool) (hL : L.length = 7) (s : St) (hs : hd [1,3,39,40] [] s = some ⟨e39 x 0,bx0 x L⟩) :
  Ev (zga7 (exec K l209_1) s) fun p => if ((L[0]?).getD false && !isReg x.a || (L[1]?).getD false && !isReg x.b || (L[2]?).getD false && !isReg x.c) = true then p.1 = .ret ∧ endK [.t 2] false 0 p = some (.dat (N 10),[]) else p.1 = .exit 2 ∧ hd [1,3] [] p.2 = some ⟨(e240 19 x.vals 0).take 2,bx0 x L⟩:=by
 match L,hL with
 | [u0,u1,u2,u3,u4,u5,u6],_ =>
 refine (ev_for 3 (fun k => ⟨e39 x k,bx0 x [u0,u1,u2,u3,u4,u5,u6]⟩) (fun k p => if (([(u0,x.a),(u1,x.b),(u2,x.c)].drop k).any fun q => q.1 && !isReg q.2) = true then p.1 = .ret ∧ endK [.t 2] false 0 p = some (.dat (N 10),[]) else p.1 = .exit 2 ∧ hd [1,3] [] p.2 = some ⟨(e240 19 x.vals 0).take 2,bx0 x [u0,u1,u2,u3,u4,u5,u6]⟩) (fun k s hk hs => ?_) (fun s hs => ?_) 3 0 s rfl hs).mono fun r h => ?_
 ·match k,hk with
  | 0,_ => cases u0 <;> by_cases c1 : x.a < 0 <;> by_cases c2 : 8 ≤ x.a <;> simp [hs,bx0,isReg_eq,c1,c2]
  | 1,_ => cases u1 <;> by_cases c1 : x.b < 0 <;> by_cases c2 : 8 ≤ x.b <;> simp [hs,bx0,isReg_eq,c1,c2]
  | 2,_ => cases u2 <;> by_cases c1 : x.c < 0 <;> by_cases c2 : 8 ≤ x.c <;> simp [hs,bx0,isReg_eq,c1,c2]
 ·simp [hs,bx0]
 ·simpa [Bool.or_assoc] using h
theorem fnm_nil (f : Int) : fnm f = [] ↔ ¬ (1 ≤ f ∧ f ≤ 10):=by
 unfold fnm
 by_cases h : 1 ≤ f ∧ f ≤ 10
 ·obtain ⟨c,s,hs⟩:=nm10_get (k:=(f - 1).toNat) (by omega)
  rw [if_pos h,hs]
  simp [h]
 ·simp [h]
theorem run209 (x : In) : K 209 [.dat (ID x)] [] = some (.dat (N (chI x)),[]):=by
 refine ce rfl ?_
 cases hk : kn x.op
 ·simp [run247,hk,chI]
 ·obtain ⟨h1,h2,h3,h4,h5⟩:=usg hk
  have hw : IntKind.wrap .i64 (x.op - 1) = x.op - 1:=wrap_i64 (by omega) (by omega)
  have hl : glob1.length = 176:=rfl
  have g1 : (x.op.toNat - 1) * 8 ≤ 176:=by omega
  have g2 : 1 ≤ 176 - (x.op.toNat - 1) * 8:=by omega
  have g3 : 7 ≤ 175 - (x.op.toNat - 1) * 8:=by omega
  have hu0 : ∀ k,uk x.op k = ((us x.op)[k]?).getD false:=fun _ => rfl
  simp [run247,run248,hk,hw,hl,h1,h2,h4,h5,g1,g2,g3]
  simp only [zaa7]
  refine (fld_loop x (us x.op) h2 _ (by simp [run247,run248,hk,hw,hl,h1,h2,h4,h5,g1,g2,g3,bx0])).mono ?_
  rintro ⟨y,s⟩ hq
  by_cases c1 : fldE (us x.op) x.vals = true
  ·rw [if_pos c1] at hq
   obtain ⟨rfl,hq⟩:=hq
   simp [hq,chI,hk,c1]
  ·rw [if_neg c1] at hq
   obtain ⟨rfl,hq⟩:=hq
   simp [hq,bx0]
   simp only [zaa7]
   refine (reg_loop x (us x.op) h2 _ (by simp [hq,bx0])).mono ?_
   rintro ⟨y,s⟩ hq
   simp only [← hu0] at hq
   have hch : chI x = if (uk x.op 0 && !isReg x.a || uk x.op 1 && !isReg x.b || uk x.op 2 && !isReg x.c) = true then 10 else if (uk x.op 6 && !decide (0 ≤ x.r ∧ x.r ≤ 2)) = true then 13 else if (uk x.op 5 && !decide (1 ≤ x.f ∧ x.f ≤ 10)) = true then 8 else if x.op = 1 ∧ ¬ isVal x.n then 2 else 0:=by
    unfold chI
    rw [if_neg (by simp [hk]),if_neg c1]
   by_cases c2 : (uk x.op 0 && !isReg x.a || uk x.op 1 && !isReg x.b || uk x.op 2 && !isReg x.c) = true
   ·rw [if_pos c2] at hq
    obtain ⟨rfl,hq⟩:=hq
    simp [hq,hch,c2]
   ·rw [if_neg c2] at hq
    obtain ⟨rfl,hq⟩:=hq
    rw [hch,if_neg c2]
    match hU : us x.op,h2 with
    | [u0,u1,u2,u3,u4,u5,u6],_ =>
    have hu6 : uk x.op 6 = u6:=by simp [uk,hU]
    have hu5 : uk x.op 5 = u5:=by simp [uk,hU]
    rw [hU] at hq
    have hn:=fnm_nil x.f
    by_cases d1 : fnm x.f = []
    ·have d2:=hn.1 d1
     simp [hq,bx0,hu6,hu5,run249,d1,d2]
     repeat' (split <;> simp [run249,d1,d2, *] <;> try omega)
    ·have d2 : 1 ≤ x.f ∧ x.f ≤ 10:=by
      by_cases h : 1 ≤ x.f ∧ x.f ≤ 10
      ·exact h
      ·exact absurd (hn.2 h) d1
     simp [hq,bx0,hu6,hu5,run249,d1,d2]
     repeat' (split <;> simp [run249,d1,d2, *] <;> try omega)
end Go.Am.E

set_option maxRecDepth 10000
set_option maxHeartbeats 1000000
namespace Go.Am.E
open Go.Proofs Go.Ex Go.Rc
theorem run133 (n : Int) : K 133 [.dat (N n)] [] = some (.dat (.bool (okV n)),[]):=ce rfl (by
 by_cases h1 : -2147483648 ≤ n <;> by_cases h2 : n ≤ 2147483647 <;> simp [okV,h1,h2])
theorem opc (op : Int) : op = 1 ∨ op = 2 ∨ op = 3 ∨ op = 4 ∨ op = 5 ∨ op = 6 ∨ op = 7 ∨ op = 8 ∨ op = 9 ∨ op = 10 ∨ op = 11 ∨ op = 12 ∨ op = 13 ∨ op = 14 ∨ op = 15 ∨ op = 16 ∨ op = 17 ∨ op = 18 ∨ op = 19 ∨ op = 20 ∨ op = 21 ∨ op = 22 ∨ (op ≠ 1 ∧ op ≠ 2 ∧ op ≠ 3 ∧ op ≠ 4 ∧ op ≠ 5 ∧ op ≠ 6 ∧ op ≠ 7 ∧ op ≠ 8 ∧ op ≠ 9 ∧ op ≠ 10 ∧ op ≠ 11 ∧ op ≠ 12 ∧ op ≠ 13 ∧ op ≠ 14 ∧ op ≠ 15 ∧ op ≠ 16 ∧ op ≠ 17 ∧ op ≠ 18 ∧ op ≠ 19 ∧ op ≠ 20 ∧ op ≠ 21 ∧ op ≠ 22):=by omega
theorem run210 (p : Pg) (op : Int) : K 210 [.dat (PD p),.dat (N op)] [] = some (.dat (N (nob p op)),[]):=ce rfl (by
 rcases opc op with rfl | rfl | rfl | rfl | rfl | rfl | rfl | rfl | rfl | rfl | rfl | rfl | rfl | rfl | rfl | rfl | rfl | rfl | rfl | rfl | rfl | rfl | h
 all_goals first | (simp [nob]; done) | simp [nob,h])
theorem run137 (p : Pg) (x : In) (n : Nat) : K 137 [.dat (PD p),.dat (ID x),.dat (N n)] [] = some (.dat (N (insE p n x)),[]):=ce rfl (by
 have h1:=run209 x
 have h2:=run210 p x.op
 generalize hc : chI x = c at h1
 generalize hn : nob p x.op = o at h2
 simp [h1,h2,insE,hc,hn]
 repeat' (split <;> first | omega | (simp [*]; done) | (simp [*]; omega) | (simp [*]) | skip)
 all_goals omega)
end Go.Am.E

set_option maxRecDepth 10000
set_option maxHeartbeats 1000000
namespace Go.Am.E
open Go.Proofs Go.Ex Go.Rc
def ixo {α : Type} (p : α → Bool) : List α → Nat → Int
 | [],_ => -1
 | a :: r,k => if p a = true then k else ixo p r (k + 1)
theorem ixo_any {α : Type} (p : α → Bool) : ∀ (l : List α) (k : Nat),(0 ≤ ixo p l k) = (l.any p = true)
 | [],_ => by simp [ixo]
 | a :: r,k => by
  have ih:=ixo_any p r (k + 1)
  simp only [ixo]
  split
  ·rename_i h; simp [h]
  ·rename_i h; simp [h,ih]
theorem ixo_no {α : Type} {p : α → Bool} : ∀ {l : List α} {k : Nat},l.any p = false → ixo p l k = -1
 | [],_,_ => rfl
 | a :: r,k,h => by
  simp only [List.any_cons,Bool.or_eq_false_iff] at h
  simp [ixo,h.1,ixo_no h.2]
abbrev QX {α : Type} (p : α → Bool) (l : List α) (m : Nat) (i : Nat) (q : AEx × St) : Prop :=
 if (l.drop i).any p = true then q.1 = .ret ∧ endK [.t 4] false m q = some (.dat (N (ixo p (l.drop i) i)),[]) else q.1 = .exit 0 ∧ hd [] [] q.2 = some ⟨[],[]⟩
theorem run246 (l : List Str) (x : Str) (hl : l.length < 100000000000) : K 246 [.dat (.sl (l.map S)),.dat (.str x)] [] = some (.dat (N (ixo (fun y => x == y) l 0)),[]):=by
 refine ce rfl ?_
 simp
 simp only [zaa7]
 refine (zjb7 (live:=[0,1,7,8]) (drop:=[]) l (by omega) (fun k => ⟨[(0,.dat (.sl (l.map S))),(1,.dat (.str x)),(7,.dat (N l.length)),(8,.dat (N k))],[]⟩) (QX (fun y => x == y) l 0)
  (fun i y s h1 h2 h3 ix hs => ?_) (fun s hs => ?_) _ (by simp)).mono ?_
 ·by_cases c : x = y <;> simp [QX,hs,h1,h2,h3,ix,zec7 h1,ixo,c]
 ·simp [QX,hs]
 ·rintro ⟨y,s⟩ hq
  simp only [QX,List.drop_zero] at hq
  split at hq
  ·obtain ⟨rfl,hq⟩:=hq
   simp [hq]
  ·rename_i h
   obtain ⟨rfl,hq⟩:=hq
   simp [hq,ixo_no (Bool.eq_false_iff.2 h)]
theorem run207 (l : List Str) (x : Str) (hl : l.length < 100000000000) : K 207 [.dat (.sl (l.map S)),.dat (.str x)] [] = some (.dat (.bool (l.contains x)),[]) :=
 ce rfl (by simp [run246 l x hl,ixo_any,List.elem_eq_contains,List.contains_eq_any_beq])
abbrev U8 (b : UInt8) : Dat:=.int .u8 (b.toNat : Int)
theorem letr_eq (b : UInt8) : letr b = ((decide ((97 : Int) ≤ b.toNat) && decide ((b.toNat : Int) ≤ 122)) || (decide ((65 : Int) ≤ b.toNat) && decide ((b.toNat : Int) ≤ 90))):=by
 unfold letr
 rw [Bool.eq_iff_iff]
 simp only [decide_eq_true_eq,Bool.or_eq_true,Bool.and_eq_true]
 omega
theorem run245 (b : UInt8) : K 245 [.dat (U8 b)] [] = some (.dat (.bool (letr b)),[]):=ce rfl (by
 rw [letr_eq]
 by_cases c1 : (97 : Int) ≤ b.toNat <;> by_cases c2 : (b.toNat : Int) ≤ 122 <;> by_cases c3 : (65 : Int) ≤ b.toNat <;> by_cases c4 : (b.toNat : Int) ≤ 90 <;> simp [*])
@[simp] theorem len_a (a : Nat) : ((a : Int) + 1 < 1) = False:=by simp; omega
@[simp] theorem len_b (a : Nat) : (1 ≤ (a : Int) + 1) = True:=by simp; omega
theorem lett_eq (b : UInt8) : lett b = (letr b || (decide ((b.toNat : Int) = 95) || (!decide ((b.toNat : Int) < 48) && !decide ((57 : Int) < b.toNat)))):=by
 unfold lett
 congr 1
 rw [Bool.eq_iff_iff]
 simp only [decide_eq_true_eq,Bool.or_eq_true,Bool.and_eq_true,Bool.not_eq_true',decide_eq_false_iff_not]
 omega
theorem nm_loop (L : Str) (hl : L.length < 100000000000) (s : St) (hs : hd [0,19,20] [] s = some ⟨[(0,.dat (.str L)),(19,.dat (N L.length)),(20,.dat (N 0))],[]⟩) :
  Ev (zga7 (exec K l206_0) s) fun q => if L.all lett = true then q.1 = .exit 0 ∧ hd [] [] q.2 = some ⟨[],[]⟩ else q.1 = .ret ∧ endK [.t 2] false 0 q = some (.dat (.bool false),[]):=by
 refine zjb7 (live:=[0,19,20]) (drop:=[]) L (by omega) (fun k => ⟨[(0,.dat (.str L)),(19,.dat (N L.length)),(20,.dat (N k))],[]⟩)
  (fun i q => if (L.drop i).all lett = true then q.1 = .exit 0 ∧ hd [] [] q.2 = some ⟨[],[]⟩ else q.1 = .ret ∧ endK [.t 2] false 0 q = some (.dat (.bool false),[]))
  (fun i y s g1 g2 g3 ix hs => ?_) (fun s hs => ?_) s hs
 ·cases d1 : letr y
  ·rcases Classical.propComplete ((y.toNat : Int) = 95) with d2 | d2 <;> by_cases d3 : (y.toNat : Int) < 48 <;> by_cases d4 : (57 : Int) < y.toNat <;>
    (have hy:=lett_eq y
     simp only [d1,d2,d3,d4,decide_true,decide_false,Bool.not_true,Bool.not_false,Bool.and_self,Bool.and_true,Bool.and_false,Bool.or_true,Bool.or_false] at hy
     simp [hs,g1,g2,g3,ix,zec7 g1,run245,hy,d1,d2,d3,d4])
  ·have hy : lett y = true:=by simp [lett,d1]
   simp [hs,g1,g2,g3,ix,zec7 g1,run245,hy,d1]
 ·simp [hs]
theorem run206 (s : Str) : K 206 [.dat (.str s)] [] = some (.dat (.bool (nmOk s)),[]):=by
 refine ce rfl ?_
 match s with
 | [] => simp [nmOk]
 | c :: r =>
  by_cases h1 : (16 : Int) < r.length + 1
  ·have h1' : ¬ r.length + 1 ≤ 16:=by omega
   simp [nmOk,h1,h1']
  ·have h1' : r.length + 1 ≤ 16:=by omega
   cases h2 : letr c
   ·simp [nmOk,h1,h1',h2,run245]
   ·simp [nmOk,h1,h1',h2,run245]
    simp only [zaa7]
    refine (nm_loop (c :: r) (by simp only [List.length_cons]; omega) _ (by simp)).mono ?_
    ·rintro ⟨y,s⟩ hq
     simp only [List.drop_zero] at hq
     have e : (c :: r).all lett = r.all lett:=by simp [lett,h2]
     rw [e] at hq
     split at hq
     ·rename_i h
      obtain ⟨rfl,hq⟩:=hq
      simp [hq,h]
     ·rename_i h
      obtain ⟨rfl,hq⟩:=hq
      simp [hq,h]
end Go.Am.E

set_option maxRecDepth 10000
set_option maxHeartbeats 1000000
namespace Go.Am.E
open Go.Proofs Go.Ex Go.Rc
theorem zhe7 {α : Type} {l : List α} {i : Nat} {x : α} (h : l[i]? = some x) : l.take (i + 1) = l.take i ++ [x]:=by
 rw [List.take_add_one,h]; rfl
theorem run130 (p : Pg) (hl : p.vs.length < 1000000000) : K 130 [.dat (PD p)] [] = some (.dat (.sl ((p.vs.map (·.1)).map S)),[]):=by
 refine ce rfl ?_
 simp
 simp only [zaa7]
 refine (zjb7 (live:=[3,7,8,9]) (drop:=[3,7]) p.vs (by omega) (fun k => ⟨[(3,.rsl ((4,0),0,0) k 1 0 k),(7,.dat (.sl (p.vs.map VD))),(8,.dat (N p.vs.length)),(9,.dat (N k))],[((4,0),.plain (.arr 1 k false ((p.vs.take k).map fun v => S v.1)))]⟩)
  (fun k q => q.1 = .exit 0 ∧ hd [3] [] q.2 = some ⟨[(3,.rsl ((4,0),0,0) p.vs.length 1 0 p.vs.length)],[((4,0),.plain (.arr 1 p.vs.length false (p.vs.map fun v => S v.1)))]⟩)
  (fun i y s h1 h2 h3 ix hs => ?_) (fun s hs => ?_) _ (by simp)).mono ?_
 ·have hr : (i + 1) * 17 ≤ 1099511627776:=by omega
  have h4 : i ≤ p.vs.length:=by omega
  obtain ⟨a,b⟩:=y
  have h5:=zhe7 (l:=p.vs.map fun v => S v.1) (i:=i) (x:=S a) (by simp [h1])
  simp [hs,h1,h2,h3,ix,hr,h4,VD,h5]
 ·simp [hs]
 ·rintro ⟨y,s⟩ ⟨rfl,hq⟩
  simp [hq,List.map_map,Function.comp_def]
theorem run132 (p : Pg) (hl : p.fs.length < 1000000000) : K 132 [.dat (PD p)] [] = some (.dat (.sl ((p.fs.map (·.1)).map S)),[]):=by
 refine ce rfl ?_
 simp
 simp only [zaa7]
 refine (zjb7 (live:=[3,7,8,9]) (drop:=[3,7]) p.fs (by omega) (fun k => ⟨[(3,.rsl ((4,0),0,0) k 1 0 k),(7,.dat (.sl (p.fs.map FD))),(8,.dat (N p.fs.length)),(9,.dat (N k))],[((4,0),.plain (.arr 1 k false ((p.fs.take k).map fun v => S v.1)))]⟩)
  (fun k q => q.1 = .exit 0 ∧ hd [3] [] q.2 = some ⟨[(3,.rsl ((4,0),0,0) p.fs.length 1 0 p.fs.length)],[((4,0),.plain (.arr 1 p.fs.length false (p.fs.map fun v => S v.1)))]⟩)
  (fun i y s h1 h2 h3 ix hs => ?_) (fun s hs => ?_) _ (by simp)).mono ?_
 ·have hr : (i + 1) * 17 ≤ 1099511627776:=by omega
  have h4 : i ≤ p.fs.length:=by omega
  obtain ⟨a,b⟩:=y
  have h5:=zhe7 (l:=p.fs.map fun v => S v.1) (i:=i) (x:=S a) (by simp [h1])
  simp [hs,h1,h2,h3,ix,hr,h4,FD,h5]
 ·simp [hs]
 ·rintro ⟨y,s⟩ ⟨rfl,hq⟩
  simp [hq,List.map_map,Function.comp_def]
theorem nms_drop {l : List Str} {i : Nat} {x : Str} (h : l[i]? = some x) : nms (l.take i) (l.drop i) = if nmOk x = false then 6 else if x ∈ l.take i then 7 else nms (l.take (i + 1)) (l.drop (i + 1)):=by
 rw [zec7 h,zhe7 h]; rfl
theorem run131 (l : List Str) (hl : l.length < 1000000000) : ∃ n : Int,K 131 [.dat (.sl (l.map S))] [] = some (.tup [.dat (N (nms [] l)),.dat (N n)],[]):=by
 have key : Ev (zwc7 K fn131 [.dat (.sl (l.map S))] []) fun r => ∃ n : Int,r = (.tup [.dat (N (nms [] l)),.dat (N n)],[]):=by
  simp
  simp only [zaa7]
  refine (zjb7 (live:=[0,6,7,8]) (drop:=[]) l (by omega) (fun k => ⟨[(0,.dat (.sl (l.map S))),(6,.dat (.sl (l.map S))),(7,.dat (N l.length)),(8,.dat (N k))],[]⟩)
   (fun i q => if nms (l.take i) (l.drop i) = 0 then q.1 = .exit 0 ∧ hd [] [] q.2 = some ⟨[],[]⟩ else q.1 = .ret ∧ ∃ n : Int,endK [.t 2,.t 3] false 0 q = some (.tup [.dat (N (nms (l.take i) (l.drop i))),.dat (N n)],[]))
   (fun i y s h1 h2 h3 ix hs' => ?_) (fun s hs => ?_) _ (by simp)).mono ?_
  ·have h4:=run206 y
   have h5:=run207 (l.take i) y (by simp; omega)
   rw [List.map_take] at h5
   have h6 : i ≤ l.length:=by omega
   have h9:=nms_drop h1
   cases h7 : nmOk y
   ·simp [hs',h1,h2,h3,ix,h4,h7,h9]
   ·by_cases h8 : y ∈ l.take i
    ·simp [hs',h1,h2,h3,ix,h4,h5,h6,h7,h8,h9]
    ·simp [hs',h1,h2,h3,ix,h4,h5,h6,h7,h8,h9]
  ·simp [hs,nms]
  ·rintro ⟨y,s⟩ hq
   simp only [List.drop_zero,List.take_zero] at hq
   split at hq
   ·rename_i h
    obtain ⟨rfl,hq⟩:=hq
    simp [hq,h]
   ·rename_i h
    obtain ⟨rfl,n,hq⟩:=hq
    simp [hq]
 obtain ⟨r,h1,n,rfl⟩:=key
 exact ⟨n,ce (fn:=fn131) rfl ⟨_,h1,rfl⟩⟩
end Go.Am.E

set_option maxRecDepth 10000
set_option maxHeartbeats 4000000
namespace Go.Am.E
open Go.Proofs Go.Ex Go.Rc
theorem fst0_drop {α : Type} {f : α → Int} {l : List α} {i : Nat} {x : α} (h : l[i]? = some x) : fst0 ((l.map f).drop i) = if f x = 0 then fst0 ((l.map f).drop (i + 1)) else f x:=by
 rw [zec7 (l:=l.map f) (x:=f x) (by simp [h])]; rfl
@[simp] theorem drop_map_len {α β : Type} (f : α → β) (l : List α) : (l.map f).drop l.length = []:=List.drop_of_length_le (by simp)
abbrev nonePl : Dat:=.agg [N (-1),N (-1)]
abbrev SL (l : List Str) : Dat:=.sl (l.map S)
theorem names_loop (L : List (List Str)) (hL : L.length < 1000) (hl : ∀ l ∈ L,l.length < 1000000000) (p : Pg) (s : St)
  (hs : hd [1,3,16,17,18] [1,3,16] s = some ⟨[(1,.ref ((2,0),0,0) 0),(3,.ref ((4,0),0,0) 0),(16,.dat (.sl (L.map SL))),(17,.dat (N L.length)),(18,.dat (N 0))],[((2,0),.plain (.box ((PDl p).map AVal.dat))),((4,0),.plain (.box [.dat (N 0),.dat (N 0)]))]⟩) :
  Ev (zga7 (exec K l87_0) s) fun q => if fst0 (L.map (nms [])) = 0 then q.1 = .exit 0 ∧ hd [1,3] [] q.2 = some ⟨[(1,.ref ((2,0),0,0) 0),(3,.ref ((4,0),0,0) 0)],[((2,0),.plain (.box ((PDl p).map AVal.dat))),((4,0),.plain (.box [.dat (N 0),.dat (N 0)]))]⟩ else q.1 = .ret ∧ endK [.t 2,.cell 3 2 true] false 0 q = some (.tup [.dat (N (fst0 (L.map (nms [])))),.dat nonePl],[]):=by
 refine zjb7 (live:=[1,3,16,17,18]) (drop:=[1,3,16]) L (by omega) (fun k => ⟨[(1,.ref ((2,0),0,0) 0),(3,.ref ((4,0),0,0) 0),(16,.dat (.sl (L.map SL))),(17,.dat (N L.length)),(18,.dat (N k))],[((2,0),.plain (.box ((PDl p).map AVal.dat))),((4,0),.plain (.box [.dat (N 0),.dat (N 0)]))]⟩)
  (fun i q => if fst0 ((L.map (nms [])).drop i) = 0 then q.1 = .exit 0 ∧ hd [1,3] [] q.2 = some ⟨[(1,.ref ((2,0),0,0) 0),(3,.ref ((4,0),0,0) 0)],[((2,0),.plain (.box ((PDl p).map AVal.dat))),((4,0),.plain (.box [.dat (N 0),.dat (N 0)]))]⟩ else q.1 = .ret ∧ endK [.t 2,.cell 3 2 true] false 0 q = some (.tup [.dat (N (fst0 ((L.map (nms [])).drop i))),.dat nonePl],[]))
  (fun i y s h1 h2 h3 ix hs => ?_) (fun s hs => ?_) s hs
 ·have h4:=fst0_drop (f:=nms []) h1
  obtain ⟨n,h5⟩:=run131 y (hl y (List.mem_of_getElem? h1))
  by_cases d : nms [] y = 0
  ·rw [if_pos d] at h4
   simp [hs,h1,h2,h3,ix,h4,h5,d]
  ·rw [if_neg d] at h4
   simp [hs,h1,h2,h3,ix,h4,h5,d]
 ·simp [hs,fst0]
theorem fst0_app : ∀ (l r : List Int),fst0 (l ++ r) = if fst0 l = 0 then fst0 r else fst0 l
 | [],r => by simp [fst0]
 | e :: l,r => by
  have ih:=fst0_app l r
  by_cases h : e = 0
  ·have e1 : fst0 (e :: l) = fst0 l:=if_pos h
   have e2 : fst0 (e :: l ++ r) = fst0 (l ++ r):=if_pos h
   rw [e2,ih]; simp [e1]
  ·have e1 : fst0 (e :: l) = e:=if_neg h
   have e2 : fst0 (e :: l ++ r) = e:=if_neg h
   rw [e2]; simp [e1,h]
theorem nmsE_app (p : Pg) : nmsE p = if fst0 ([p.vs.map (·.1),p.ms,p.cs].map (nms [])) = 0 then nms [] (p.fs.map (·.1)) else fst0 ([p.vs.map (·.1),p.ms,p.cs].map (nms [])):=by
 have:=fst0_app ([p.vs.map (·.1),p.ms,p.cs].map (nms [])) [nms [] (p.fs.map (·.1))]
 have e : fst0 [nms [] (p.fs.map (·.1))] = nms [] (p.fs.map (·.1)):=by simp only [fst0]; split <;> simp [*]
 rw [e] at this
 exact this
theorem run87 (p : Pg) (h1 : p.vs.length < 1000000000) (h2 : p.ms.length < 1000000000) (h3 : p.cs.length < 1000000000) (h4 : p.fs.length < 1000000000) :
  ∃ a b : Int,K 87 [.dat (PD p)] [] = some (.tup [.dat (N (nmsE p)),.dat (.agg [N a,N b])],[]):=by
 obtain ⟨n,h5⟩:=run131 (p.fs.map (·.1)) (by simpa using h4)
 have h6:=run130 p h1
 have h7:=run132 p h4
 by_cases d : fst0 ([p.vs.map (·.1),p.ms,p.cs].map (nms [])) = 0
 ·have e : nmsE p = nms [] (p.fs.map (·.1)):=by
   rw [nmsE_app,if_pos d]
  refine ⟨n,-1,ce rfl ?_⟩
  simp at h5 h6 h7
  simp [h6]
  simp only [zaa7]
  refine (names_loop [p.vs.map (·.1),p.ms,p.cs] (by simp) (by simp [h1,h2,h3]) p _ (by simp [h6])).mono ?_
  rintro ⟨y,s⟩ hq
  rw [if_pos d] at hq
  obtain ⟨rfl,hq⟩:=hq
  simp [hq,h7,h5,e]
 ·have e : nmsE p = fst0 ([p.vs.map (·.1),p.ms,p.cs].map (nms [])):=by
   rw [nmsE_app,if_neg d]
  refine ⟨-1,-1,ce rfl ?_⟩
  simp at h6
  simp [h6]
  simp only [zaa7]
  refine (names_loop [p.vs.map (·.1),p.ms,p.cs] (by simp) (by simp [h1,h2,h3]) p _ (by simp [h6])).mono ?_
  rintro ⟨y,s⟩ hq
  rw [if_neg d] at hq
  obtain ⟨rfl,hq⟩:=hq
  simp only [← e] at hq
  simp [hq]
end Go.Am.E

set_option maxRecDepth 10000
set_option maxHeartbeats 4000000
namespace Go.Am.E
open Go.Proofs Go.Ex Go.Rc
def lgF (f : Str × List In) : Bool:=decide (64 < f.2.length)
theorem run135 (f : Str × List In) : K 135 [.dat (FD f)] [] = some (.dat (.bool (lgF f)),[]):=ce rfl (by
 obtain ⟨n,l⟩:=f
 have e : ((64 : Int) < l.length) = (64 < l.length):=by rw [eq_iff_iff]; omega
 simp [FD,e,lgF])
def ixf {α : Type} (p : α → Bool) (i : Nat) (x : α) : Option Nat:=if p x = true then some i else none
theorem scan_ixo {α : Type} (p : α → Bool) : ∀ (l : List α) (k : Nat),ixo p l k = match scan (ixf p) l k with
  | some i => (i : Int)
  | none => -1
 | [],_ => rfl
 | a :: r,k => by
  have ih:=scan_ixo p r (k + 1)
  cases c : p a <;> simp [ixo,scan,ixf,c,ih]
theorem run134 (l : List (Str × List In)) (hl : l.length < 100000000000) : K 134 [.dat (.sl (l.map FD)),.fn 135 []] [] = some (.dat (N (ixo lgF l 0)),[]):=by
 refine ce rfl ?_
 rw [scan_ixo]
 simp
 simp only [zaa7]
 refine (znb7 (live:=[0,1,7,8]) (drop:=[]) l (ixf lgF) (by omega) (fun k => ⟨[(0,.dat (.sl (l.map FD))),(1,.fn 135 []),(7,.dat (N l.length)),(8,.dat (N k))],[]⟩)
  (fun q => q.1 = .exit 0 ∧ hd [] [] q.2 = some ⟨[],[]⟩) (fun i q => q.1 = .ret ∧ endK [.t 4] false 0 q = some (.dat (N i),[]))
  (fun i y s h1 h2 h3 ix hs => ?_) (fun s hs => ?_) _ (by simp)).mono ?_
 ·have h4:=run135 y
  obtain ⟨n,c⟩:=y
  simp only [FD] at h4
  cases c : lgF (n,c) <;> simp [hs,h1,h2,h3,ix,c,h4,YID,FD,ixf]
 ·simp [hs]
 ·rintro ⟨y,s⟩ hq
  cases c : scan (ixf lgF) l 0 <;> rw [c] at hq <;> obtain ⟨rfl,hq⟩:=hq <;> simp [hq]
abbrev bxs (l : List Dat) : TObj:=.plain (.box (l.map AVal.dat))
abbrev L111 (st : LSt) : TObj:=.plain (.blk (.loop 89 st [(1,.ref ((0,1),0,0) 0),(2,.ref ((0,2),0,0) 0),(3,.ref ((0,3),0,0) 0),(4,.ref ((0,4),0,0) 0)]))
abbrev O111 (p : Pg) (long : Int) (st : LSt) (e a b : Int) : List TObj:=[L111 st,bxs (PDl p),bxs [N e],bxs [N a,N b],bxs [N long]]
theorem y111 (p : Pg) (long : Int) (f : Nat) (i : Int) (x : In) (F : Str × List In) (hF : p.fs[f]? = some F) :
  K YID [.dat (.agg [N f,N i]),.dat (ID x),.bref true ((0,0),0,0)] (O111 p long .ready 0 0 0) =
   some (if (f : Int) = long then (.dat (.bool false),O111 p long (.done (.exit 0)) 0 0 0) else if insE p F.2.length x = 0 then (.dat (.bool true),O111 p long .ready 0 0 0) else (.dat (.bool false),O111 p long (.done .ret) (insE p F.2.length x) f i)):=by
 refine yield_ev (k:=89) (j:=0) (lp:=lp89) rfl rfl rfl rfl ?_
 have h1:=run137 p x F.2.length
 obtain ⟨h2,h3⟩:=List.getElem?_eq_some_iff.1 hF
 have h4 : (f : Int) < p.fs.length:=by omega
 by_cases c : (f : Int) = long
 ·simp [c]
 ·by_cases d : insE p F.2.length x = 0
  ·simp [c,d,h1,h2,h3,h4,hF,FD]
  ·simp [c,d,h1,h2,h3,h4,hF,FD]
abbrev Stp:=LSt × Int × Int × Int
def g111 (p : Pg) (long : Int) (f n : Nat) (i : Nat) (x : In) : Option Stp :=
 if (f : Int) = long then some (.done (.exit 0),0,0,0) else if insE p n x = 0 then none else some (.done .ret,insE p n x,f,i)
def f111 (p : Pg) (long : Int) (f : Nat) (F : Str × List In) : Option Stp:=scan (g111 p long f F.2.length) F.2 0
abbrev L239 (st : LSt) : TObj:=.plain (.blk (.loop 89 st [(1,.ref ((0,2),0,0) 0),(2,.ref ((0,3),0,0) 0),(3,.ref ((0,4),0,0) 0),(4,.ref ((0,5),0,0) 0)]))
abbrev O239 (p : Pg) (long : Int) (q : Stp) : List TObj:=[L239 q.1,bxs (PDl p),bxs (PDl p),bxs [N q.2.1],bxs [N q.2.2.1,N q.2.2.2],bxs [N long]]
abbrev S111 (p : Pg) (long : Int) (q : Stp) : zta7:=[((0,0),L239 q.1),((0,1),bxs (PDl p)),((0,2),bxs (PDl p)),((0,3),bxs [N q.2.1]),((0,4),bxs [N q.2.2.1,N q.2.2.2]),((0,5),bxs [N long])]
abbrev rdyS : Stp:=(.ready,0,0,0)
abbrev E239 (p : Pg) (f : Nat) : Env:=[(0,.bref true ((0,0),0,0)),(8,.dat (.sl (p.fs.map FD))),(9,.dat (N p.fs.length)),(10,.dat (N f))]
theorem in239 (p : Pg) (long : Int) (f : Nat) (F : Str × List In) (hF : p.fs[f]? = some F) (hl : F.2.length < 1000000000) (s : St)
  (hs : hd [0,3,8,9,10,16,17,18] [0,8,16] s = some ⟨[(0,.bref true ((0,0),0,0)),(3,.dat (N f)),(8,.dat (.sl (p.fs.map FD))),(9,.dat (N p.fs.length)),(10,.dat (N f)),(16,.dat (.sl (F.2.map ID))),(17,.dat (N F.2.length)),(18,.dat (N 0))],S111 p long rdyS⟩) :
  Ev (zga7 (exec K l208_0) s) (oQ (fun q => q.1 = .exit 2 ∧ hd [0,8,9,10] [] q.2 = some ⟨E239 p f,S111 p long rdyS⟩) (fun b q => q.1 = .ret ∧ endK [] false 6 q = some (.tup [],O239 p long b)) (f111 p long f F)):=by
 refine znb7 (live:=[0,3,8,9,10,16,17,18]) (drop:=[0,8,16]) F.2 (g111 p long f F.2.length) (by omega) (fun k => ⟨[(0,.bref true ((0,0),0,0)),(3,.dat (N f)),(8,.dat (.sl (p.fs.map FD))),(9,.dat (N p.fs.length)),(10,.dat (N f)),(16,.dat (.sl (F.2.map ID))),(17,.dat (N F.2.length)),(18,.dat (N k))],S111 p long rdyS⟩) _ _
  (fun i y s h1 h2 h3 ix hs => ?_) (fun s hs => ?_) s hs
 ·have hy:=y111 p long f i y F hF
  simp only [YID,O111,L111,bxs,PDl,List.map_cons,List.map_nil] at hy
  by_cases c : (f : Int) = long
  ·simp [c] at hy
   simp [hs,h1,h2,h3,ix,YID,hy,c,g111]
  ·by_cases d : insE p F.2.length y = 0
   ·simp [c,d] at hy
    simp [hs,h1,h2,h3,ix,YID,hy,c,d,g111]
   ·simp [c,d] at hy
    simp [hs,h1,h2,h3,ix,YID,hy,c,d,g111]
 ·simp [hs]
def stp111 (p : Pg) (long : Int) : Option Stp:=scan (f111 p long) p.fs 0
theorem run208 (p : Pg) (long : Int) (hl : p.fs.length < 1000000000) (hc : ∀ F ∈ p.fs,F.2.length < 1000000000) :
  K 208 [.bref true ((0,0),0,0),.ref ((0,1),0,0) 0] (O239 p long rdyS) = some (.tup [],O239 p long ((stp111 p long).getD rdyS)):=by
 refine ce rfl ?_
 simp
 simp only [zaa7]
 refine (znb7 (live:=[0,8,9,10]) (drop:=[0,8]) p.fs (f111 p long) (by omega) (fun k => ⟨E239 p k,S111 p long rdyS⟩) (fun q => q.1 = .exit 0 ∧ hd [] [] q.2 = some ⟨[],S111 p long rdyS⟩)
  (fun b q => q.1 = .ret ∧ endK [] false 6 q = some (.tup [],O239 p long b))
  (fun i y s h1 h2 h3 ix hs => ?_) (fun s hs => ?_) _ (by simp)).mono ?_
 ·have h4:=in239 p long i y h1 (hc y (List.mem_of_getElem? h1))
  obtain ⟨n,c⟩:=y
  simp [hs,h1,h2,h3,ix,FD]
  simp only [zaa7]
  refine (h4 _ (by simp [hs,h1,h2,h3,ix,FD])).mono ?_
  rintro ⟨y,s⟩ hq
  cases c : f111 p long i (n,c) <;> rw [c] at hq <;> obtain ⟨rfl,hq⟩:=hq <;> simp [hq,ix]
 ·simp [hs]
 ·rintro ⟨y,s⟩ hq
  unfold stp111
  cases c : scan (f111 p long) p.fs 0 <;> rw [c] at hq <;> obtain ⟨rfl,hq⟩:=hq
  ·obtain ⟨env,objs⟩:=s
   simp only [hd_eq,zff7,dropE_nil,Option.some.injEq,St.mk.injEq,true_and] at hq
   simp [hq]
  ·simp [hq]
theorem run136 (p : Pg) : K 136 [.dat (PD p)] [] = some (.fn 208 [.ref ((0,0),0,0) 0],[.plain (.box ((PDl p).map AVal.dat))]):=ce rfl (by simp)
theorem scan_g (p : Pg) {long : Int} (f n : Nat) (hne : (f : Int) ≠ long) : ∀ (l : List In) (k : Nat),(scan (g111 p long f n) l k = none ∧ fst0 (l.map (insE p n)) = 0) ∨ ∃ e a b,scan (g111 p long f n) l k = some (.done .ret,e,a,b) ∧ fst0 (l.map (insE p n)) = e ∧ e ≠ 0
 | [],k => .inl ⟨rfl,rfl⟩
 | x :: r,k => by
  have ih:=scan_g p f n hne r (k + 1)
  by_cases c : insE p n x = 0
  ·simp only [scan,g111,c,hne,if_true,if_false,List.map_cons,fst0]
   exact ih
  ·right
   exact ⟨insE p n x,f,k,by simp [scan,g111,c,hne],by simp [fst0,c],c⟩
theorem scan_f (p : Pg) : ∀ (l : List (Str × List In)) (k : Nat) (L : Int),L = ixo lgF l k → (scan (f111 p L) l k = none ∧ L = -1 ∧ fst0 (l.map (funE p)) = 0) ∨ (scan (f111 p L) l k = some (.done (.exit 0),0,0,0) ∧ 0 ≤ L ∧ fst0 (l.map (funE p)) = 4) ∨ ∃ e a b,scan (f111 p L) l k = some (.done .ret,e,a,b) ∧ fst0 (l.map (funE p)) = e ∧ e ≠ 0
 | [],k,L,h => .inl ⟨rfl,h,rfl⟩
 | F :: r,k,L,h => by
  cases c : lgF F
  ·have h' : L = ixo lgF r (k + 1):=by rw [h]; simp [ixo,c]
   have hk : ∀ (r : List (Str × List In)) (k : Nat),ixo lgF r k = -1 ∨ (k : Int) ≤ ixo lgF r k:=by
    intro r
    induction r with
    | nil => intro k; exact .inl rfl
    | cons a r ih =>
     intro k
     simp only [ixo]
     split
     ·exact .inr (Int.le_refl _)
     ·rcases ih (k + 1) with h | h
      ·exact .inl h
      ·right; omega
   have hne : (k : Int) ≠ L:=by rcases hk r (k + 1) with h1 | h1 <;> rw [h'] <;> omega
   have c' : ¬ 64 < F.2.length:=by simpa [lgF] using c
   have e1 : funE p F = fst0 (F.2.map (insE p F.2.length)):=if_neg c'
   rcases scan_g p k F.2.length hne F.2 0 with ⟨h1,h2⟩ | ⟨e,a,b,h1,h2,h3⟩
   ·simp only [scan,f111,h1,List.map_cons,fst0,e1,h2,if_true]
    exact scan_f p r (k + 1) L h'
   ·refine .inr (.inr ⟨e,a,b,by simp [scan,f111,h1],by simp [fst0,e1,h2,h3],h3⟩)
  ·have h' : L = k:=by rw [h]; simp [ixo,c]
   have c' : 64 < F.2.length:=by simpa [lgF] using c
   right; left
   obtain ⟨n,l⟩:=F
   cases l with
   | nil => simp at c'
   | cons x l => exact ⟨by simp [scan,f111,g111,h'],by omega,by simp only [List.map_cons,fst0,funE,c',if_true]; rfl⟩
theorem run89 (p : Pg) (hl : p.fs.length < 1000000000) (hc : ∀ F ∈ p.fs,F.2.length < 1000000000) : ∃ a b : Int,K 89 [.dat (PD p)] [] = some (.tup [.dat (N (codE p)),.dat (.agg [N a,N b])],[]):=by
 have h1:=run134 p.fs (by omega)
 have h2:=run136 p
 have h3:=run208 p (ixo lgF p.fs 0) hl hc
 simp only [O239,L239,bxs,PDl,List.map_cons,List.map_nil] at h3
 unfold codE
 rcases scan_f p p.fs 0 _ rfl with ⟨c1,c2,c3⟩ | ⟨c1,c2,c3⟩ | ⟨e,a,b,c1,c2,c3⟩ <;> unfold stp111 at h3 <;> rw [c1] at h3
 ·refine ⟨-1,-1,ce rfl ?_⟩
  simp only [c2] at h1 h3
  simp [h1,h2,h3,YID,c3]
 ·refine ⟨ixo lgF p.fs 0,-1,ce rfl ?_⟩
  simp [h1,h2,h3,YID,c2,c3]
 ·refine ⟨a,b,ce rfl ?_⟩
  simp [h1,h2,h3,YID,c2]
end Go.Am.E

set_option maxRecDepth 10000
set_option maxHeartbeats 4000000
namespace Go.Am.E
open Go.Proofs Go.Ex Go.Rc
def CD (c : Cf) : Dat:=.agg [N c.md,N c.bd]
theorem run55 (c : Cf) : K 55 [.dat (CD c)] [] = some (.dat (N (cfE c)),[]):=ce rfl (by
 obtain ⟨a,b⟩:=c
 simp [CD,cfE]
 repeat' (split <;> first | omega | (simp [*]; done) | (simp [*]; omega) | (simp [*]) | skip)
 all_goals omega)
theorem stE_cases (p : Pg) (a b : Int) : (a < 0 ∧ stE p (a,b) = 11) ∨ (¬ a < 0 ∧ (p.fs.length : Int) ≤ a ∧ stE p (a,b) = 11) ∨ (¬ a < 0 ∧ ¬ (p.fs.length : Int) ≤ a ∧ okV b = true ∧ stE p (a,b) = 0) ∨ (¬ a < 0 ∧ ¬ (p.fs.length : Int) ≤ a ∧ okV b = false ∧ stE p (a,b) = 2):=by
 unfold stE
 by_cases h1 : a < 0
 ·exact .inl ⟨h1,if_pos (by omega)⟩
 ·by_cases h2 : (p.fs.length : Int) ≤ a
  ·exact .inr (.inl ⟨h1,h2,if_pos (by omega)⟩)
  ·cases h3 : okV b
   ·exact .inr (.inr (.inr ⟨h1,h2,rfl,by rw [if_neg (by omega)]; rfl⟩))
   ·exact .inr (.inr (.inl ⟨h1,h2,rfl,by rw [if_neg (by omega)]; rfl⟩))
theorem run90 (p : Pg) : K 90 [.dat (PD p)] [] = some (.tup [.dat (N (thrE p)),.dat nonePl],[]):=by
 refine ce rfl ?_
 unfold thrE
 by_cases c1 : (p.ts.length : Int) < 1
 ·have c1' : p.ts.length < 1 ∨ 8 < p.ts.length:=by omega
  rw [if_pos c1']
  simp [c1]
 ·by_cases c2 : (8 : Int) < p.ts.length
  ·have c1' : p.ts.length < 1 ∨ 8 < p.ts.length:=by omega
   rw [if_pos c1']
   simp [c1,c2]
  ·have c1' : ¬ (p.ts.length < 1 ∨ 8 < p.ts.length):=by omega
   rw [if_neg c1']
   simp [c1,c2]
   simp only [zaa7]
   refine (zjb7 (live:=[1,3,4,20,21,22]) (drop:=[1,3,4,20]) p.ts (by omega) (fun k => ⟨[(1,.ref ((2,0),0,0) 0),(3,.ref ((4,0),0,0) 0),(4,.ref ((5,0),0,0) 0),(20,.dat (.sl (p.ts.map NP))),(21,.dat (N p.ts.length)),(22,.dat (N k))],
     [((2,0),.plain (.box ((PDl p).map AVal.dat))),((4,0),.plain (.box [.dat (N 0),.dat (N 0)])),((5,0),.plain (.box [.dat (N (-1)),.dat (N (-1))]))]⟩)
    (fun i q => if fst0 ((p.ts.map (stE p)).drop i) = 0 then q.1 = .exit 0 ∧ hd [3,4] [] q.2 = some ⟨[(3,.ref ((4,0),0,0) 0),(4,.ref ((5,0),0,0) 0)],[((2,0),.plain (.box ((PDl p).map AVal.dat))),((4,0),.plain (.box [.dat (N 0),.dat (N 0)])),((5,0),.plain (.box [.dat (N (-1)),.dat (N (-1))]))]⟩ else q.1 = .ret ∧ endK [.t 2,.cell 3 2 true] false 0 q = some (.tup [.dat (N (fst0 ((p.ts.map (stE p)).drop i))),.dat nonePl],[]))
    (fun i y s h1 h2 h3 ix hs => ?_) (fun s hs => ?_) _ (by simp)).mono ?_
   ·have h4:=fst0_drop (f:=stE p) h1
    obtain ⟨a,b⟩:=y
    rcases stE_cases p a b with ⟨d1,e⟩ | ⟨d1,d2,e⟩ | ⟨d1,d2,d3,e⟩ | ⟨d1,d2,d3,e⟩ <;>
     simp only [e] at h4 <;> simp [hs,h1,h2,h3,ix,NP,run133,h4, *]
   ·simp [hs,fst0]
   ·rintro ⟨y,s⟩ hq
    simp only [List.drop_zero] at hq
    split at hq
    ·rename_i h
     obtain ⟨rfl,hq⟩:=hq
     simp [hq,h]
    ·rename_i h
     obtain ⟨rfl,hq⟩:=hq
     simp [hq,h]
theorem run88 (p : Pg) (hl : p.vs.length < 1000000000) : K 88 [.dat (PD p)] [] = some (.tup [.dat (N (if limE p = 0 then iniE p else limE p)),.dat nonePl],[]):=by
 refine ce rfl ?_
 by_cases hlim : limE p = 0
 ·rw [if_pos hlim]
  unfold limE at hlim
  have c1 : ¬ (8 : Int) < p.vs.length ∧ ¬ (4 : Int) < p.ms.length ∧ ¬ (4 : Int) < p.cs.length ∧ ¬ (8 : Int) < p.fs.length:=by split at hlim <;> omega
  obtain ⟨c1,c2,c3,c4⟩:=c1
  simp [c1,c2,c3,c4]
  simp only [zaa7]
  refine (zjb7 (live:=[3,4,32,33,34]) (drop:=[3,4,32]) p.vs (by omega) (fun k => ⟨[(3,.ref ((4,0),0,0) 0),(4,.ref ((5,0),0,0) 0),(32,.dat (.sl (p.vs.map VD))),(33,.dat (N p.vs.length)),(34,.dat (N k))],
    [((4,0),.plain (.box [.dat (N 0),.dat (N 0)])),((5,0),.plain (.box [.dat (N (-1)),.dat (N (-1))]))]⟩)
   (fun i q => if ((p.vs.drop i).all fun v => okV v.2) = true then q.1 = .exit 0 ∧ hd [3,4] [] q.2 = some ⟨[(3,.ref ((4,0),0,0) 0),(4,.ref ((5,0),0,0) 0)],[((4,0),.plain (.box [.dat (N 0),.dat (N 0)])),((5,0),.plain (.box [.dat (N (-1)),.dat (N (-1))]))]⟩ else q.1 = .ret ∧ endK [.t 2,.cell 3 2 true] false 0 q = some (.tup [.dat (N 2),.dat nonePl],[]))
   (fun i y s h1 h2 h3 ix hs => ?_) (fun s hs => ?_) _ (by simp)).mono ?_
  ·have h4:=zec7 h1
   obtain ⟨a,b⟩:=y
   have h5 : ((p.vs.drop i).all fun v => okV v.2) = (okV b && (p.vs.drop (i + 1)).all fun v => okV v.2):=by rw [h4]; rfl
   cases d : okV b <;> rw [d] at h5
   ·simp [hs,h1,h2,h3,ix,VD,run133,h5,d]
   ·simp only [Bool.true_and] at h5
    simp [hs,h1,h2,h3,ix,VD,run133,d]
    rw [h5]
    exact fun _ _ h => h
  ·simp [hs]
  ·unfold iniE
   rintro ⟨y,s⟩ hq
   simp only [List.drop_zero] at hq
   split at hq
   ·rename_i h
    obtain ⟨rfl,hq⟩:=hq
    rw [if_pos h]
    simp [hq]
   ·rename_i h
    obtain ⟨rfl,hq⟩:=hq
    rw [if_neg h]
    simp [hq]
 ·rw [if_neg hlim]
  have hlim' : limE p = 4:=by unfold limE at hlim ⊢; split at hlim <;> simp_all
  rw [hlim']
  unfold limE at hlim
  by_cases c1 : (8 : Int) < p.vs.length
  ·simp [c1]
  ·by_cases c2 : (4 : Int) < p.ms.length
   ·simp [c1,c2]
   ·by_cases c3 : (4 : Int) < p.cs.length
    ·simp [c1,c2,c3]
    ·by_cases c4 : (8 : Int) < p.fs.length
     ·simp [c1,c2,c3,c4]
     ·exact absurd (if_neg (by omega)) hlim
end Go.Am.E

set_option maxRecDepth 10000
set_option maxHeartbeats 4000000
namespace Go.Am.E
open Go.Proofs Go.Ex Go.Rc
structure Fit (p : Pg) : Prop where
 vs : p.vs.length < 1000000000
 ms : p.ms.length < 1000000000
 cs : p.cs.length < 1000000000
 fs : p.fs.length < 1000000000
 cd : ∀ F ∈ p.fs,F.2.length < 1000000000
theorem chP_eq (p : Pg) : chP p = if nmsE p = 0 then (if (if limE p = 0 then iniE p else limE p) = 0 then (if codE p = 0 then thrE p else codE p) else (if limE p = 0 then iniE p else limE p)) else nmsE p:=by
 unfold chP
 by_cases h1 : nmsE p = 0 <;> by_cases h2 : limE p = 0 <;> by_cases h3 : iniE p = 0 <;> by_cases h4 : codE p = 0 <;> by_cases h5 : thrE p = 0 <;> simp [fst0,h1,h2,h3,h4,h5]
theorem run54 (p : Pg) (h : Fit p) : ∃ a b : Int,K 54 [.dat (PD p)] [] = some (.tup [.dat (N (chP p)),.dat (N a),.dat (N b)],[]):=by
 obtain ⟨a1,b1,h1⟩:=run87 p h.vs h.ms h.cs h.fs
 have h2:=run88 p h.vs
 obtain ⟨a3,b3,h3⟩:=run89 p h.fs h.cd
 have h4:=run90 p
 rw [chP_eq]
 generalize nmsE p = e1 at *
 generalize (if limE p = 0 then iniE p else limE p) = e2 at *
 generalize codE p = e3 at *
 generalize thrE p = e4 at *
 by_cases c1 : e1 = 0
 ·subst c1
  by_cases c2 : e2 = 0
  ·subst c2
   by_cases c3 : e3 = 0
   ·subst c3
    by_cases c4 : e4 = 0
    ·subst c4
     refine ⟨-1,-1,ce rfl ?_⟩
     simp [*]
    ·refine ⟨-1,-1,ce rfl ?_⟩
     simp [*]
   ·refine ⟨a3,b3,ce rfl ?_⟩
    simp [*]
  ·refine ⟨-1,-1,ce rfl ?_⟩
   simp [*]
 ·refine ⟨a1,b1,ce rfl ?_⟩
  simp [*]
theorem run164 (p : Pg) (h : Fit p) : K 164 [.dat (PD p)] [] = some (.dat (.bool (decide (chP p = 0))),[]):=by
 obtain ⟨a,b,h1⟩:=run54 p h
 exact ce rfl (by simp [h1])
theorem stdE_if (p : Pg) (bd : Int) : stdE p bd = if chP p = 0 then (if bd < 1 then 2 else if 32 < bd then 2 else 0) else chP p:=by
 unfold stdE
 by_cases h1 : chP p = 0 <;> by_cases h2 : bd < 1 <;> by_cases h3 : 32 < bd <;> simp [h1,h2,h3]
theorem run138 (p : Pg) (bd : Int) (h : Fit p) : K 138 [.dat (PD p),.dat (N bd)] [] = some (.dat (N (stdE p bd)),[]):=by
 obtain ⟨a,b,h1⟩:=run54 p h
 rw [stdE_if]
 refine ce rfl ?_
 generalize chP p = e at *
 by_cases c1 : e = 0
 ·subst c1
  by_cases h2 : bd < 1 <;> by_cases h3 : 32 < bd <;> simp [h1,h2,h3]
 ·simp [h1,c1]
theorem run91 (p : Pg) (bd : Int) (h : Fit p) : K 91 [.dat (PD p),.dat (N bd)] [] = some (.dat (N (stdE p bd)),[]):=by
 obtain ⟨a,b,h1⟩:=run54 p h
 rw [stdE_if]
 refine ce rfl ?_
 generalize chP p = e at *
 by_cases c1 : e = 0
 ·subst c1
  by_cases h2 : bd < 1 <;> by_cases h3 : 32 < bd <;> simp [h1,h2,h3]
 ·simp [h1,c1]
theorem run211 (n : Int) (h : 0 ≤ n) (h2 : n < 100000000000000) : K 211 [.dat (N n)] [] = some (.tup [.dat (N (n / 8 - 1)),.dat (N (n % 8))],[]):=ce rfl (by
 have e : n.tdiv 8 = n / 8:=Int.tdiv_eq_ediv_of_nonneg h
 have e2 : n.tmod 8 = n % 8:=Int.tmod_eq_emod_of_nonneg h
 have h1 : IntKind.wrap .i64 (n / 8) = n / 8:=wrap_i64 (by omega) (by omega)
 have h3 : IntKind.wrap .i64 (n / 8 - 1) = n / 8 - 1:=wrap_i64 (by omega) (by omega)
 simp [e,e2,h1,h3])
def depZ (id : Int) : Int:=match dep id with
 | some d => d
 | none => -1
def depP (d : Nat) (r : Option Nat) (q : AEx × St) : Prop:=match r with
 | some r => q.1 = .ret ∧ endK [.t 2] false 0 q = some (.dat (N (d + r : Nat)),[])
 | none => (q.1 = .ret ∧ endK [.t 2] false 0 q = some (.dat (N (-1)),[])) ∨ (q.1 = .exit 0 ∧ hd [] [] q.2 = some ⟨[],[]⟩)
theorem dep_loop : ∀ (k d : Nat) (e : Int) (s : St),d + k = 5 → 0 ≤ e → e < 100000000000000 → hd [0,8] [] s = some ⟨[(0,.dat (N e)),(8,.dat (N d))],[]⟩ → Ev (zga7 (exec K l139_0) s) (depP d (dpt k e))
 | 0,d,e,s,hk,h0,h1,hs => by
  have : d = 5:=by omega
  subst this
  apply zoc7
  simp [hs,dpt,depP]
 | k + 1,d,e,s,hk,h0,h1,hs => by
  have ix : Ix d:=by unfold Ix; omega
  have h5 : (d : Int) < 5:=by omega
  have h6:=run211 e h0 h1
  apply zoc7
  by_cases c1 : e < 8
  ·simp [hs,h5,c1,dpt,depP]
  ·by_cases c2 : 7 ≤ e % 8
   ·simp [hs,h5,c1,c2,dpt,h6,depP]
   ·simp [hs,h5,c1,c2,dpt,h6,ix]
    refine (dep_loop k (d + 1) (e / 8 - 1) _ (by omega) (by omega) (by omega) (by simp)).mono fun q hq => ?_
    cases c : dpt k (e / 8 - 1) <;> simp only [c,depP,Option.map_none,Option.map_some] at hq ⊢
    ·exact hq
    ·rename_i r
     rw [show d + (r + 1) = d + 1 + r by omega]; exact hq
theorem run139 (id : Int) (hid : id < 100000000000000) : K 139 [.dat (N id)] [] = some (.dat (N (depZ id)),[]):=by
 refine ce rfl ?_
 by_cases h0 : id < 0
 ·simp [depZ,dep,h0]
 ·simp [h0]
  simp only [zaa7]
  refine (dep_loop 5 0 id _ rfl (by omega) hid (by simp)).mono ?_
  rintro ⟨y,s⟩ hq
  simp only [depZ,dep,h0,if_false]
  cases c : dpt 5 id <;> simp only [c,depP] at hq
  ·rcases hq with ⟨rfl,hq⟩ | ⟨rfl,hq⟩ <;> simp [hq]
  ·obtain ⟨rfl,hq⟩:=hq
   simp [hq]
theorem dep_bd {k : Nat} : ∀ {id : Int} {d : Nat},dpt k id = some d → id < 8 ^ k * 16 - 8 ∧ d < k:=by
 induction k with
 | zero => intro id d h; simp [dpt] at h
 | succ k ih =>
  intro id d h
  simp only [dpt] at h
  have h8 : (1 : Int) ≤ 8 ^ k:=Int.pow_pos (by omega)
  split at h
  ·injection h with h; rw [Int.pow_succ]; omega
  ·split at h
   ·cases h
   ·cases c : dpt k (id / 8 - 1) <;> rw [c] at h
    ·cases h
    ·simp only [Option.map_some,Option.some.injEq] at h
     have:=ih c
     rw [Int.pow_succ]
     omega
def chdP (t : Th) : Dat × Dat:=match chd t with
 | some c => (N c,.bool true)
 | none => (N 0,.bool false)
theorem run189 (t : Th) (hid : t.id < 100000000000000) : K 189 [.dat (TD t)] [] = some (.tup [.dat (chdP t).1,.dat (chdP t).2],[]):=by
 have h1:=run139 t.id hid
 unfold chdP chd
 unfold depZ at h1
 cases c : dep t.id with
 | none =>
  rw [c] at h1
  exact ce rfl (by simp [h1])
 | some d =>
  rw [c] at h1
  have hb : t.id < 8 ^ 5 * 16 - 8 ∧ d < 5 ∧ 0 ≤ t.id:=by
   unfold dep at c
   split at c
   ·cases c
   ·have:=dep_bd c; omega
  obtain ⟨hb1,hb2,hb3⟩:=hb
  refine ce rfl ?_
  by_cases c1 : d = 4
  ·subst c1; simp [h1]
  ·have c1' : ¬ (d : Int) = 4:=by omega
   by_cases c2 : t.ch < 0
   ·simp [h1,c1,c1',c2]
   ·by_cases c3 : 7 ≤ t.ch
    ·simp [h1,c1,c1',c2,c3]
    ·have w1 : IntKind.wrap .i64 (t.id + 1) = t.id + 1:=wrap_i64 (by omega) (by omega)
     have w2 : IntKind.wrap .i64 (8 * (t.id + 1)) = 8 * (t.id + 1):=wrap_i64 (by omega) (by omega)
     have w3 : IntKind.wrap .i64 (8 * (t.id + 1) + t.ch) = 8 * (t.id + 1) + t.ch:=wrap_i64 (by omega) (by omega)
     simp [h1,c1,c1',c2,c3,w1,w2,w3]
theorem run51 (l : List Int) (x : Int) (hl : l.length < 100000000000) : K 51 [.dat (Ns l),.dat (N x)] [] = some (.dat (N (ixo (fun y => x == y) l 0)),[]):=by
 refine ce rfl ?_
 rw [scan_ixo]
 simp
 simp only [zaa7]
 refine (znb7 (live:=[0,1,7,8]) (drop:=[]) l (ixf fun y => x == y) (by omega) (fun k => ⟨[(0,.dat (Ns l)),(1,.dat (N x)),(7,.dat (N l.length)),(8,.dat (N k))],[]⟩)
  (fun q => q.1 = .exit 0 ∧ hd [] [] q.2 = some ⟨[],[]⟩) (fun i q => q.1 = .ret ∧ endK [.t 4] false 0 q = some (.dat (N i),[]))
  (fun i y s h1 h2 h3 ix hs => ?_) (fun s hs => ?_) _ (by simp)).mono ?_
 ·by_cases c : x = y <;> simp [hs,h1,h2,h3,ix,c,ixf]
 ·simp [hs]
 ·rintro ⟨y,s⟩ hq
  cases c : scan (ixf fun y => x == y) l 0 <;> rw [c] at hq <;> obtain ⟨rfl,hq⟩:=hq <;> simp [hq]
theorem run28 (l : List Int) (x : Int) (hl : l.length < 100000000000) : K 28 [.dat (Ns l),.dat (N x)] [] = some (.dat (.bool (l.contains x)),[]) :=
 ce rfl (by simp [run51 l x hl,ixo_any,List.elem_eq_contains,List.contains_eq_any_beq])
theorem run240 (l : List Int) (x : Int) (hl : l.length < 100000000000) : K 240 [.dat (Ns l),.dat (N x)] [] = some (.dat (.bool (l.contains x)),[]) :=
 ce rfl (by simp [run28 l x hl])
end Go.Am.E

set_option maxRecDepth 10000
set_option maxHeartbeats 4000000
namespace Go.Am.E
open Go.Proofs Go.Ex Go.Rc
theorem run205 (t : Th) (id : Int) : K 205 [.dat (TD t),.ref ((0,0),0,0) 0] [.plain (.box [.dat (N id)])] = some (.dat (.bool (decide (t.id = id))),[.plain (.box [.dat (N id)])]):=ce rfl (by simp)
theorem run204 (l : List Th) (id : Int) (hl : l.length < 100000000000) : K 204 [.dat (.sl (l.map TD)),.fn 205 [.ref ((0,0),0,0) 0]] [.plain (.box [.dat (N id)])] = some (.dat (N (ixo (fun t => decide (t.id = id)) l 0)),[.plain (.box [.dat (N id)])]):=by
 refine ce rfl ?_
 rw [scan_ixo]
 simp
 simp only [zaa7]
 refine (znb7 (live:=[0,1,7,8]) (drop:=[]) l (ixf fun t => decide (t.id = id)) (by omega) (fun k => ⟨[(0,.dat (.sl (l.map TD))),(1,.fn 205 [.ref ((0,0),0,0) 0]),(7,.dat (N l.length)),(8,.dat (N k))],[((0,0),.plain (.box [.dat (N id)]))]⟩)
  (fun q => q.1 = .exit 0 ∧ hd [] [] q.2 = some ⟨[],[((0,0),.plain (.box [.dat (N id)]))]⟩) (fun i q => q.1 = .ret ∧ endK [.t 4] false 1 q = some (.dat (N i),[.plain (.box [.dat (N id)])]))
  (fun i y s h1 h2 h3 ix hs => ?_) (fun s hs => ?_) _ (by simp)).mono ?_
 ·have h4:=run205 y id
  by_cases c : y.id = id <;> simp [hs,h1,h2,h3,ix,c,ixf,h4,YID] <;> simp [c] at h4 <;> simp [h4]
 ·simp [hs]
 ·rintro ⟨y,s⟩ hq
  cases c : scan (ixf fun t : Th => decide (t.id = id)) l 0 <;> rw [c] at hq <;> obtain ⟨rfl,hq⟩:=hq <;> simp [hq]
theorem ixo_fnd (id : Int) : ∀ (l : List Th) (k : Nat),ixo (fun t => decide (t.id = id)) l k = match fndT l id with
  | some i => ((k + i : Nat) : Int)
  | none => -1
 | [],k => rfl
 | t :: r,k => by
  have ih:=ixo_fnd id r (k + 1)
  by_cases c : t.id = id
  ·simp [ixo,fndT,c]
  ·simp only [ixo,fndT,c,decide_false,if_false,Bool.false_eq_true,ih]
   cases fndT r id with
   | none => rfl
   | some i => simp only [Option.map_some]; congr 1; omega
def fndP (l : List Th) (id : Int) : AVal:=match fndT l id with
 | some i => .tup [.dat (N i),.dat (.bool true)]
 | none => .tup [.dat (N 0),.dat (.bool false)]
theorem run129 (l : List Th) (id : Int) (hl : l.length < 100000000000) : K 129 [.dat (.sl (l.map TD)),.dat (N id)] [] = some (fndP l id,[]):=by
 have h1:=run204 l id hl
 rw [ixo_fnd] at h1
 unfold fndP
 cases c : fndT l id with
 | none =>
  simp only [c] at h1
  exact ce rfl (by simp [h1])
 | some i =>
  simp only [c] at h1
  have h2 : (0 : Int) ≤ i:=by omega
  have h3 : ¬ (i : Int) < 0:=by omega
  exact ce rfl (by simp [h1])
structure InP (p : Pg) (t : Th) : Prop where
 f0 : 0 ≤ t.fn
 f1 : t.fn < p.fs.length
 p0 : 0 ≤ t.pc
theorem codeT_get {p : Pg} {t : Th} (h : InP p t) : ∃ F,p.fs[t.fn.toNat]? = some F ∧ (∀ h : t.fn.toNat < p.fs.length,p.fs[t.fn.toNat] = F) ∧ codeT p t = F.2:=by
 obtain ⟨h1,h2,h3⟩:=h
 obtain ⟨F,g1,g2⟩:=zib7 p.fs (i:=t.fn.toNat) (by omega)
 exact ⟨F,g1,g2,by simp [codeT,g1]⟩
abbrev ID0 : Dat:=.agg [N 0,N 0,N 0,N 0,N 0,N 0,N 0,N 0]
def insP : Option In → AVal
 | some i => .tup [.dat (ID i),.dat (.bool true)]
 | none => .tup [.dat ID0,.dat (.bool false)]
theorem run170 (p : Pg) (t : Th) (h : InP p t) : K 170 [.dat (PD p),.dat (TD t)] [] = some (insP (insT p t),[]):=by
 obtain ⟨F,g1,g2,g3⟩:=codeT_get h
 obtain ⟨h1,h2,h3⟩:=h
 obtain ⟨n,c⟩:=F
 unfold insT
 rw [g3]
 refine ce rfl ?_
 simp only at *
 have c1' : t.fn.toNat < p.fs.length:=by omega
 by_cases c1 : (c.length : Int) ≤ t.pc
 ·have c2 : c[t.pc.toNat]? = none:=List.getElem?_eq_none (by omega)
  simp [h1,h2,h3,g1,g2,c1,c2,insP,FD,c1']
 ·obtain ⟨x,x1,x2⟩:=zib7 c (i:=t.pc.toNat) (by omega)
  have c3 : t.pc.toNat < c.length:=by omega
  have c4 : t.pc < c.length:=by omega
  simp [h1,h2,h3,g1,g2,c1,c3,c4,x1,x2,insP,FD,c1']
theorem run266 (l : List Int) (hl : l.length < 100000000000) : K 266 [.dat (Ns l)] [] = some (.dat (.bool (incr l)),[]):=by
 refine ce rfl ?_
 simp
 simp only [zaa7]
 refine (ev_for (live:=[0,3]) (drop:=[]) (l.length - 1) (fun d => ⟨[(0,.dat (Ns l)),(3,.dat (N ((d + 1 : Nat) : Int)))],[]⟩)
   (fun d q => if incr (l.drop d) = true then q.1 = .exit 0 ∧ hd [] [] q.2 = some ⟨[],[]⟩ else q.1 = .ret ∧ endK [.t 2] false 0 q = some (.dat (.bool false),[]))
   (fun d s hd' hs => ?_) (fun s hs => ?_) (l.length - 1) 0 _ (by omega) (by simp)).mono ?_
 ·obtain ⟨a,a1,a2⟩:=zib7 l (i:=d) (by omega)
  obtain ⟨b,b1,b2⟩:=zib7 l (i:=d + 1) (by omega)
  have ix : Ix (d + 1):=by unfold Ix; omega
  have ix' : Ix d:=by unfold Ix; omega
  have h1 : (d : Int) + 1 < l.length:=by omega
  have w : IntKind.wrap .i64 (d : Int) = d:=wrap_i64 (by omega) (by omega)
  have h2 : (d : Int) < l.length:=by omega
  have wS : IntKind.wrap .i64 ((d : Int) + 1 + 1) = d + 1 + 1:=wrap_i64 (by omega) (by omega)
  have e : incr (l.drop d) = (decide (a < b) && incr (l.drop (d + 1))):=by rw [zec7 a1,zec7 b1]; rfl
  by_cases c : a < b
  ·have c' : ¬ b ≤ a:=by omega
   simp only [c,decide_true,Bool.true_and] at e
   simp [hs,h1,h2,a1,b1,a2,b2,w,wS,c,c',e]
   try (intro a b h; rw [e]; exact h)
  ·have c' : b ≤ a:=by omega
   simp [hs,h1,h2,a1,b1,a2,b2,w,c,c',e]
 ·have h1 : ¬ ((l.length - 1 : Nat) : Int) + 1 < l.length:=by omega
  have e : incr (l.drop (l.length - 1)) = true:=by
   have : (l.drop (l.length - 1)).length ≤ 1:=by simp; omega
   match h : l.drop (l.length - 1),this with
   | [],_ => rfl
   | [a],_ => rfl
  simp [hs,h1,e]
 ·rintro ⟨y,s⟩ hq
  simp only [List.drop_zero] at hq
  split at hq
  ·rename_i h
   obtain ⟨rfl,hq⟩:=hq
   simp [hq,h]
  ·rename_i h
   obtain ⟨rfl,hq⟩:=hq
   simp [hq,h]
end Go.Am.E

set_option maxRecDepth 10000
set_option maxHeartbeats 4000000
namespace Go.Am.E
open Go.Proofs Go.Ex Go.Rc
abbrev X323 (p : Pg) (t : Th) : zta7:=[((4,0),.plain (.box ((PDl p).map AVal.dat))),((6,0),.plain (.box (TDc t)))]
abbrev E323 (bd d : Int) : Env:=[(1,.dat (N bd)),(3,.ref ((4,0),0,0) 0),(5,.ref ((6,0),0,0) 0),(7,.dat (N d))]
theorem w32_okV (n : Int) : (w32 n = n) = (okV n = true):=by rw [okV_iff,w32_val]
def rgX (i : Nat) (n : Int) : Option Unit:=if okV n = true then none else some ()
theorem RLc_g (t : Th) {j : Nat} (h : j < (RLc t).length) : (RLc t)[j] = .dat (N (t.rg j)):=by
 have h8 : j < 8:=by simpa using h
 have:=RLc_get t j
 rw [RL_get t h8,List.getElem?_eq_getElem h] at this
 exact Option.some.inj this
theorem loop242_0 (p : Pg) (t : Th) (bd d : Int) (s : St) (hs : hd [1,3,5,7,51,52] [] s = some ⟨E323 bd d ++ [(51,.agg (RLc t)),(52,.dat (N 0))],X323 p t⟩) :
  Ev (zga7 (exec K l242_0) s) (oQ (fun q => q.1 = .exit 0 ∧ hd [1,3,5,7] [] q.2 = some ⟨E323 bd d,X323 p t⟩) (fun _ q => q.1 = .ret ∧ endK [.t 6] false 0 q = some (.dat (.bool false),[])) (scan rgX ((List.range 8).map t.rg) 0)):=by
 refine znb7 (live:=[1,3,5,7,51,52]) (drop:=[]) ((List.range 8).map t.rg) rgX (by simp) (fun k => ⟨E323 bd d ++ [(51,.agg (RLc t)),(52,.dat (N k))],X323 p t⟩) _ _
  (fun i y s h1 h2 h3 ix hs => ?_) (fun s hs => ?_) s hs
 ·have h4:=run140 y
  have h5 : i < 8:=by simp at h3; omega
  have h6 : (i : Int) < 8:=by omega
  have h7 : t.rg i = y:=by rw [List.getElem?_map,List.getElem?_range h5] at h1; exact Option.some.inj h1
  have h8:=RL_get t h5
  rw [h7] at h8
  have h9 : ∀ h : i < (RLc t).length,(RLc t)[i] = .dat (N y):=fun h => by rw [RLc_g,h7]
  cases c : okV y
  ·have c':=w32_okV y
   simp only [c] at c'
   simp [hs,h6,h5,h8,h9,ix,h4,rgX,c,c']
  ·have c' : w32 y = y:=by rw [w32_okV,c]
   rw [c'] at h4
   simp [hs,h6,h5,h8,h9,ix,h4,rgX,c,c']
 ·simp [hs]
theorem zef7 {α : Type} (f : α → Bool) (l : List α) : ∀ k : Nat,scan (fun _ x => if f x = true then none else some ()) l k = if l.all f = true then none else some ():=by
 induction l with
 | nil => intro k; rfl
 | cons a r ih => intro k; cases c : f a <;> simp [scan,c,ih]
abbrev E323b : Env:=[(3,.ref ((4,0),0,0) 0),(5,.ref ((6,0),0,0) 0)]
def okH (p : Pg) (m : Int) : Bool:=decide (0 ≤ m ∧ m < p.ms.length)
theorem loop242_1 (p : Pg) (t : Th) (hl : t.hd.length < 100000000000) (s : St) (hs : hd [3,5,95,96,97] [] s = some ⟨E323b ++ [(95,.dat (Ns t.hd)),(96,.dat (N t.hd.length)),(97,.dat (N 0))],X323 p t⟩) :
  Ev (zga7 (exec K l242_1) s) (oQ (fun q => q.1 = .exit 2 ∧ hd [3,5] [] q.2 = some ⟨E323b,X323 p t⟩) (fun _ q => q.1 = .ret ∧ endK [.t 6] false 0 q = some (.dat (.bool false),[])) (if t.hd.all (okH p) = true then none else some ())):=by
 rw [← zef7 (okH p) t.hd 0]
 refine znb7 (live:=[3,5,95,96,97]) (drop:=[]) t.hd _ (by omega) (fun k => ⟨E323b ++ [(95,.dat (Ns t.hd)),(96,.dat (N t.hd.length)),(97,.dat (N k))],X323 p t⟩) _ _
  (fun i y s h1 h2 h3 ix hs => ?_) (fun s hs => ?_) s hs
 ·by_cases c1 : y < 0
  ·have c : okH p y = false:=by simp [okH]; omega
   simp [hs,h1,h2,h3,ix,c1,c]
  ·by_cases c2 : (p.ms.length : Int) ≤ y
   ·have c : okH p y = false:=by simp [okH]; omega
    simp [hs,h1,h2,h3,ix,c1,c2,c]
   ·have c : okH p y = true:=by simp [okH]; omega
    simp [hs,h1,h2,h3,ix,c1,c2,c]
 ·simp [hs]
structure Tb (t : Th) : Prop where
 id : t.id < 100000000000000
 hd : t.hd.length < 1000000000
theorem run242 (p : Pg) (bd : Int) (t : Th) (hb : Tb t) : K 242 [.dat (PD p),.dat (N bd),.dat (TD t)] [] = some (.dat (.bool (frmT p bd t)),[]):=by
 obtain ⟨hid,hhd⟩:=hb
 have h1:=run139 t.id hid
 unfold depZ at h1
 refine ce rfl ?_
 cases c0 : dep t.id with
 | none =>
  rw [c0] at h1
  simp [h1,frmT,c0]
 | some d =>
  rw [c0] at h1
  by_cases c1 : t.fn < 0
  ·have e : frmT p bd t = false:=by simp only [frmT,c0,show decide (0 ≤ t.fn ∧ t.fn < p.fs.length) = false by simp; omega,Bool.false_and]
   simp [h1,c1,e]
  ·by_cases c2 : (p.fs.length : Int) ≤ t.fn
   ·have e : frmT p bd t = false:=by simp only [frmT,c0,show decide (0 ≤ t.fn ∧ t.fn < p.fs.length) = false by simp; omega,Bool.false_and]
    simp [h1,c1,c2,e]
   ·by_cases c3 : t.pc < 0
    ·have e : frmT p bd t = false:=by simp only [frmT,c0,show decide (0 ≤ t.pc ∧ t.pc ≤ ((codeT p t).length : Int)) = false by simp; omega,Bool.false_and,Bool.and_false]
     simp [h1,c1,c2,c3,e]
    ·have hin : InP p t:=⟨by omega,by omega,by omega⟩
     have h2:=run170 p t hin
     obtain ⟨F,g1,g2,g3⟩:=codeT_get hin
     have c1' : t.fn.toNat < p.fs.length:=by omega
     have c2' : t.fn < p.fs.length:=by omega
     have c3' : 0 ≤ t.fn:=by omega
     obtain ⟨n,code⟩:=F
     simp only at g3
     by_cases c4 : (code.length : Int) < t.pc
     ·have e : frmT p bd t = false:=by simp only [frmT,c0,g3,show decide (0 ≤ t.pc ∧ t.pc ≤ (code.length : Int)) = false by simp; omega,Bool.false_and,Bool.and_false]
      simp [h1,c1,c2,c3,c4,e,c1',c2',c3',g1,g2,FD]
     ·simp [h1,c1,c2,c3,c4,c1',c2',c3',g1,g2,FD]
      simp only [zaa7]
      refine (loop242_0 p t bd d _ (by simp [h1,c1,c2,c3,c4,c1',c2',c3',g1,g2,FD])).mono ?_
      rintro ⟨y,s⟩ hq
      rw [show (rgX : Nat → Int → Option Unit) = fun _ n => if okV n = true then none else some () from rfl,zef7] at hq
      have e : frmT p bd t = ((List.range 8).all (fun j => okV (t.rg j)) && decide (0 ≤ t.st ∧ t.st ≤ bd) && decide (0 ≤ t.ch ∧ t.ch ≤ 7) && (decide (d ≠ 4) || decide (t.ch = 0)) && incr t.hd &&
        t.hd.all (okH p) && (decide (t.ph = 0) || (decide (t.ph = 1 ∨ t.ph = 2) && match insT p t with
        | none => false
        | some i => decide (i.op = 18) && !t.hd.contains i.n))):=by
       simp only [frmT,c0,g3,show decide (0 ≤ t.pc ∧ t.pc ≤ (code.length : Int)) = true by simp; omega,show decide (0 ≤ t.fn ∧ t.fn < p.fs.length) = true by simp; omega,Bool.true_and]
       rfl
      rw [List.all_map,show (okV ∘ t.rg) = fun j => okV (t.rg j) from rfl] at hq
      generalize (List.range 8).all (fun j => okV (t.rg j)) = R at e hq
      cases R
      ·simp at hq
       obtain ⟨rfl,hq⟩:=hq
       simp [hq,e]
      ·simp only [if_true,oQ_n,Bool.true_and] at hq e
       obtain ⟨rfl,hq⟩:=hq
       have h3:=run266 t.hd (by omega)
       have cd : ((d : Int) = 4) = (d = 4):=by rw [eq_iff_iff]; omega
       by_cases c5 : t.st < 0
       ·simp [hq,e,c5,show ¬ (0 ≤ t.st) by omega]
       ·by_cases c6 : bd < t.st
        ·simp [hq,e,c5,c6,show ¬ (t.st ≤ bd) by omega]
        ·by_cases c7 : t.ch < 0
         ·simp [hq,e,c5,c6,c7,show ¬ (0 ≤ t.ch) by omega]
         ·by_cases c8 : 7 < t.ch
          ·simp [hq,e,c5,c6,c7,c8,show ¬ (t.ch ≤ 7) by omega]
          ·simp only [show decide (0 ≤ t.st ∧ t.st ≤ bd) = true by simp; omega,show decide (0 ≤ t.ch ∧ t.ch ≤ 7) = true by simp; omega,Bool.true_and] at e
           have c9 : (d = 4 ∧ ¬ t.ch = 0) ∨ (d = 4 ∧ t.ch = 0) ∨ ¬ d = 4:=by omega
           cases c11 : incr t.hd
           ·rw [c11] at h3 e
            rcases c9 with ⟨c9,c10⟩ | ⟨c9,c10⟩ | c9
            ·simp [hq,e,c5,c6,c7,c8,c9,c10,cd]
            ·simp [hq,e,c5,c6,c7,c8,c9,c10,cd,h3]
            ·simp [hq,e,c5,c6,c7,c8,c9,cd,h3]
           ·rw [c11] at h3 e
            rcases c9 with ⟨c9,c10⟩ | c9
            ·simp [hq,e,c5,c6,c7,c8,c9,c10,cd]
            ·have e2 : (decide (d ≠ 4) || decide (t.ch = 0)) = true:=by simp; omega
             simp only [e2,Bool.true_and] at e
             rcases c9 with ⟨c9,c10⟩ | c9 <;> (first | simp [hq,c5,c6,c7,c8,c9,c10,cd,h3] | simp [hq,c5,c6,c7,c8,c9,cd,h3]) <;> simp only [zaa7] <;>
              refine (loop242_1 p t (by omega) _ (by first | simp [hq,c5,c6,c7,c8,c9,c10,cd,h3] | simp [hq,c5,c6,c7,c8,c9,cd,h3])).mono ?_ <;>
              (rintro ⟨y,s⟩ hq2
               cases c12 : t.hd.all (okH p) <;> rw [c12] at hq2 e
               ·simp only [Bool.false_eq_true,if_false,oQ_s] at hq2
                obtain ⟨rfl,hq2⟩:=hq2
                simp [hq2,e]
               ·simp only [if_true,oQ_n,Bool.true_and] at hq2 e
                obtain ⟨rfl,hq2⟩:=hq2
                by_cases c13 : t.ph = 0
                ·simp [hq2,e,c13]
                ·rcases hi : insT p t with _ | i <;> rw [hi] at h2 e <;> simp only [insP] at h2
                 ·by_cases c14 : t.ph = 1
                  ·simp [hq2,e,c13,c14,h2]
                  ·by_cases c15 : t.ph = 2 <;> simp [hq2,e,c13,c14,c15,h2]
                 ·have h4:=run240 t.hd i.n (by omega)
                  by_cases c16 : i.op = 18 <;> by_cases c14 : t.ph = 1 <;> by_cases c15 : t.ph = 2 <;> simp [hq2,e,c13,c14,c15,c16,h2,h4])
end Go.Am.E

set_option maxRecDepth 10000
set_option maxHeartbeats 4000000
namespace Go.Am.E
open Go.Proofs Go.Ex Go.Rc
attribute [-simp] splice
attribute [local simp] zwb7
theorem run212 (t : Th) (s f : Int) : K 212 [.dat (TD t),.dat (N s),.dat (N f)] [] = some (.dat (TD (endT t s f)),[]):=ce rfl (by simp [endT])
theorem run214 (t : Th) (i : In) (hb : Tb t) : K 214 [.dat (TD t),.dat (ID i)] [] = some (.dat (N (obs t i)),[]):=by
 obtain ⟨hid,hhd⟩:=hb
 have h1:=run189 t hid
 have h2:=run240 t.hd i.n (by omega)
 have h3:=run240 t.hd i.o (by omega)
 refine ce rfl ?_
 unfold obs
 by_cases c1 : t.ph = 0
 ·by_cases c2 : i.op = 18
  ·cases c3 : t.hd.contains i.n <;> rw [c3] at h2 <;> simp [c1,c2,h2]
  ·by_cases c4 : i.op = 16
   ·cases c3 : t.hd.contains i.o <;> rw [c3] at h3 <;> simp [c1,c2,c4,h3]
   ·by_cases c5 : i.op = 21
    ·rcases c3 : chd t with _ | c <;> simp only [chdP,c3] at h1 <;> simp [c1,c2,c4,c5,h1]
    ·simp [c1,c2,c4,c5]
 ·simp [c1]
theorem w32_mod {a b : Int} (h : a % 4294967296 = b % 4294967296) : w32 a = w32 b:=by unfold w32; rw [h]
theorem bit64 (f : Nat → Nat → Nat) (hf : ∀ a b : Nat,f a b % 2 ^ 32 = f (a % 2 ^ 32) (b % 2 ^ 32)) (x y : Int) (n : Nat) (hn : n = f (BitVec.ofInt 64 x).toNat (BitVec.ofInt 64 y).toNat) :
  w32 (IntKind.wrap .i64 (n : Int)) = bitw f x y:=by
 unfold bitw
 have h1 : IntKind.wrap .i64 (n : Int) % 4294967296 = (n : Int) % 4294967296:=by
  have : IntKind.wrap .i64 (n : Int) = if (n : Int) % 2 ^ 64 ≥ 2 ^ 63 then (n : Int) % 2 ^ 64 - 2 ^ 64 else (n : Int) % 2 ^ 64:=by simp [IntKind.wrap,IntKind.bits,IntKind.signed]
  rw [this]; split <;> omega
 refine w32_mod (h1.trans ?_)
 have e1 : (BitVec.ofInt 64 x).toNat % 2 ^ 32 = (x % 4294967296).toNat:=by rw [BitVec.toNat_ofInt]; omega
 have e2 : (BitVec.ofInt 64 y).toNat % 2 ^ 32 = (y % 4294967296).toNat:=by rw [BitVec.toNat_ofInt]; omega
 have h2:=hf (BitVec.ofInt 64 x).toNat (BitVec.ofInt 64 y).toNat
 rw [e1,e2,← hn] at h2
 have h3:=hf (x % 4294967296).toNat (y % 4294967296).toNat
 rw [Nat.mod_eq_of_lt (by omega),Nat.mod_eq_of_lt (by omega)] at h3
 omega
theorem run172 (f a b : Int) : K 172 [.dat (N f),.dat (N a),.dat (N b)] [] = some (.tup [.dat (N (Go.Ex.appF f a b)),.dat (N (appE f))],[]):=by
 refine ce rfl ?_
 have ha:=run140 a
 have hb:=run140 b
 unfold Go.Ex.appF
 have va:=w32_isVal a
 have vb:=w32_isVal b
 generalize w32 a = x at *
 generalize w32 b = y at *
 by_cases h : 1 ≤ f ∧ f ≤ 10
 ·have hf : f = 1 ∨ f = 2 ∨ f = 3 ∨ f = 4 ∨ f = 5 ∨ f = 6 ∨ f = 7 ∨ f = 8 ∨ f = 9 ∨ f = 10:=by omega
  rcases hf with rfl | rfl | rfl | rfl | rfl | rfl | rfl | rfl | rfl | rfl
  ·have w : IntKind.wrap .i64 (x + y) = x + y:=by unfold isVal at *; exact wrap_i64 (by omega) (by omega)
   simp [ha,hb,run140,appE,w]
  ·have w : IntKind.wrap .i64 (x - y) = x - y:=by unfold isVal at *; exact wrap_i64 (by omega) (by omega)
   simp [ha,hb,run140,appE,w]
  ·have w : IntKind.wrap .i64 (x * y) = x * y:=by
    have h1 : x.natAbs ≤ 2147483648:=by unfold isVal at va; omega
    have h2 : y.natAbs ≤ 2147483648:=by unfold isVal at vb; omega
    have h3:=Nat.mul_le_mul h1 h2
    rw [← Int.natAbs_mul] at h3
    exact wrap_i64_all (by omega) (by omega)
   simp [ha,hb,run140,appE,w]
  ·have w:=bit64 (· &&& ·) (fun a b => Nat.and_mod_two_pow) x y _ (BitVec.toNat_and _ _)
   simp at w
   have iA : intE .and .i64 x y = some (.dat (.int .i64 (IntKind.wrap .i64 ((BitVec.ofInt 64 x &&& BitVec.ofInt 64 y).toNat)))):=rfl
   simp [ha,hb,run140,appE,iA,w]
  ·have w:=bit64 (· ||| ·) (fun a b => Nat.or_mod_two_pow) x y _ (BitVec.toNat_or _ _)
   simp at w
   have iA : intE .or .i64 x y = some (.dat (.int .i64 (IntKind.wrap .i64 ((BitVec.ofInt 64 x ||| BitVec.ofInt 64 y).toNat)))):=rfl
   simp [ha,hb,run140,appE,iA,w]
  ·have w:=bit64 (· ^^^ ·) (fun a b => Nat.xor_mod_two_pow) x y _ (BitVec.toNat_xor _ _)
   simp at w
   have iA : intE .xor .i64 x y = some (.dat (.int .i64 (IntKind.wrap .i64 ((BitVec.ofInt 64 x ^^^ BitVec.ofInt 64 y).toNat)))):=rfl
   simp [ha,hb,run140,appE,iA,w]
  ·simp [ha,hb,run234,appE]
  ·simp [ha,hb,run234,appE]
  ·simp [ha,hb,run234,appE]
  ·simp [ha,hb,run234,appE]
 ·have hf : f ≠ 1 ∧ f ≠ 2 ∧ f ≠ 3 ∧ f ≠ 4 ∧ f ≠ 5 ∧ f ≠ 6 ∧ f ≠ 7 ∧ f ≠ 8 ∧ f ≠ 9 ∧ f ≠ 10:=by omega
  simp [ha,hb,hf,appE,h]
end Go.Am.E

set_option maxRecDepth 10000
set_option maxHeartbeats 4000000
namespace Go.Am.E
open Go.Proofs Go.Ex Go.Rc
attribute [-simp] splice
attribute [local simp] zwb7
def cv {α : Type} (l : List α) : Nat:=min 1 l.length
theorem ce_split {f : FuncId} {fn : AFun} (hf : tblE.fn f = some fn) (hs : fn.split = some 0) {l : List Dat} {r : AVal × List TObj} (h0 : l = [] → Ev (zwc7 K fn [.emp true] []) (· = r) ∧ Ev (zwc7 K fn [.emp false] []) (· = r))
  (h1 : ∀ a m,l = a :: m → Ev (zwc7 K fn [.dat (.sl (a :: m))] []) (· = r)) (hne : f ≠ YID:=by decide) : K f [.dat (.sl l)] [] = some r:=by
 refine callT_of hf ?_ hne
 unfold runS
 rw [hs]
 cases l with
 | nil =>
  obtain ⟨g1,g2⟩:=h0 rfl
  have g1:=g1.eq
  have g2:=g2.eq
  simp only [List.getElem?_cons_zero,isEmp,if_true,List.set_cons_zero,g1,g2]
 | cons a m =>
  have g:=(h1 a m rfl).eq
  simp only [List.getElem?_cons_zero,isEmp,if_false,g,Bool.false_eq_true]
theorem run41 (l : List Int) (h : l.length < 10000000000) : K 41 [.dat (Ns l)] [] = some (.rsl ((0,0),0,0) (cv l) 1 0 l.length,[.plain (.arr 1 (cv l) false (l.map N))]):=by
 refine ce_split rfl rfl (fun e => ?_) (fun a m e => ?_)
 ·have : l = []:=by simpa using e
  subst this
  simp [cv]
 ·cases l with
  | nil => cases e
  | cons b l =>
   obtain ⟨rfl,rfl⟩:=List.cons.inj e
   have h2 : (l.length + 1) * 9 ≤ 1099511627776:=by simp at h; omega
   simp [h2,cv]
theorem zkd7 (t : Th) {k : Nat} (h : k < 8) (hh : 3 + k < (TDc t).length) : (TDc t)[3 + k] = .dat (N (t.rg k)):=by
 have:=TDc_get t (3 + k)
 rw [zrb7 t h,List.getElem?_eq_getElem hh] at this
 exact Option.some.inj this
def locP (t : Th) (i : In) : AVal:=.tup [.dat (TD (locT t i).1),.dat (.bool (locT t i).2)]
def rgs (i : In) : Prop:=(uk i.op 0 = true → 0 ≤ i.a ∧ i.a < 8) ∧ (uk i.op 1 = true → 0 ≤ i.b ∧ i.b < 8) ∧ (uk i.op 2 = true → 0 ≤ i.c ∧ i.c < 8)
theorem rg8 {n : Int} (h : 0 ≤ n ∧ n < 8) : ∃ k : Nat,n = k ∧ k < 8 ∧ (k : Int) < 8 ∧ 3 + k < 17 ∧ 3 + k ≤ 16:=⟨n.toNat,by omega,by omega,by omega,by omega,by omega⟩
theorem run215 (t : Th) (i : In) (hp : 0 ≤ t.pc) (hp2 : t.pc < 100000000000) (hr : rgs i) (hf : i.op = 3 → 1 ≤ i.f ∧ i.f ≤ 10) : K 215 [.dat (TD t),.dat (ID i)] [] = some (locP t i,[]):=by
 obtain ⟨r1,r2,r3⟩:=hr
 have w : IntKind.wrap .i64 (t.pc + 1) = t.pc + 1:=wrap_i64 (by omega) (by omega)
 refine ce rfl ?_
 unfold locP locT
 rcases opc i.op with h | h | h | h | h | h | h | h | h | h | h | h | h | h | h | h | h | h | h | h | h | h | h
 ·rw [h] at r1
  obtain ⟨k,hk,k1,k2,k3,k4⟩:=rg8 (r1 rfl)
  simp [h,w,hk,TDc_sr,setR,k1,k2,k3,k4]
 ·rw [h] at r1 r2
  obtain ⟨k,hk,k1,k2,k3,k4⟩:=rg8 (r1 rfl)
  obtain ⟨j,hj,j1,j2,j3,j4⟩:=rg8 (r2 rfl)
  simp [h,w,hk,hj,TDc_sr,setR,k1,k2,k3,k4,j1,j2,j3,j4,zrb7,zkd7,reg]
 ·rw [h] at r1 r2 r3
  obtain ⟨k,hk,k1,k2,k3,k4⟩:=rg8 (r1 rfl)
  obtain ⟨j,hj,j1,j2,j3,j4⟩:=rg8 (r2 rfl)
  obtain ⟨m,hm,m1,m2,m3,m4⟩:=rg8 (r3 rfl)
  have e : appE i.f = 0:=if_pos (hf h)
  simp [h,w,hk,hj,hm,TDc_sr,setR,k1,k2,k3,k4,j1,j2,j3,j4,m1,m2,m3,m4,zrb7,zkd7,reg,run172,e]
 ·simp [h]
 ·rw [h] at r2
  obtain ⟨j,hj,j1,j2,j3,j4⟩:=rg8 (r2 rfl)
  by_cases c : t.rg j = 0
  ·simp [h,w,hj,j1,j2,j3,j4,zrb7,zkd7,reg,c]
  ·simp [h,hj,j1,j2,j3,j4,zrb7,zkd7,reg,c]
 ·rw [h] at r2
  obtain ⟨j,hj,j1,j2,j3,j4⟩:=rg8 (r2 rfl)
  by_cases c : t.rg j = 0
  ·simp [h,w,hj,j1,j2,j3,j4,zrb7,zkd7,reg,c,run212]
  ·simp [h,w,hj,j1,j2,j3,j4,zrb7,zkd7,reg,c]
 ·simp [h,w,run212]
 all_goals simp [h,w]
end Go.Am.E

set_option maxRecDepth 10000
set_option maxHeartbeats 4000000
namespace Go.Am.E
open Go.Proofs Go.Ex Go.Rc
attribute [-simp] splice
attribute [local simp] zwb7
theorem zgf7 : ∀ {l : List Int},fst0 l = 0 → ∀ e ∈ l,e = 0
 | [],_,e,h => by cases h
 | a :: r,h,e,he => by
  simp only [fst0] at h
  split at h
  ·rename_i h1
   rcases List.mem_cons.1 he with rfl | he
   ·exact h1
   ·exact zgf7 h e he
  ·exact absurd h ‹_›
theorem chP_ins {p : Pg} (h : chP p = 0) {F : Str × List In} (hF : F ∈ p.fs) {i : In} (hi : i ∈ F.2) : insE p F.2.length i = 0 ∧ F.2.length ≤ 64:=by
 have h1:=zgf7 h (codE p) (by simp)
 have h2:=zgf7 h1 (funE p F) (List.mem_map.2 ⟨F,hF,rfl⟩)
 unfold funE at h2
 split at h2
 ·cases h2
 ·exact ⟨zgf7 h2 _ (List.mem_map.2 ⟨i,hi,rfl⟩),by omega⟩
theorem chI_ok {i : In} (h : chI i = 0) : kn i.op = true ∧ rgs i ∧ (i.op = 3 → 1 ≤ i.f ∧ i.f ≤ 10) ∧ (i.op = 14 → 1 ≤ i.f ∧ i.f ≤ 10) ∧ (i.op = 1 → isVal i.n):=by
 unfold chI at h
 split at h
 ·cases h
 rename_i h1
 split at h
 ·cases h
 split at h
 ·cases h
 rename_i h2
 split at h
 ·cases h
 split at h
 ·cases h
 rename_i h3
 split at h
 ·cases h
 rename_i h4
 have h1 : kn i.op = true:=by simpa using h1
 simp only [Bool.or_eq_true,Bool.and_eq_true,Bool.not_eq_true',not_or,not_and,Bool.not_eq_false,isReg,decide_eq_true_eq] at h2 h3
 refine ⟨h1,⟨h2.1.1,h2.1.2,h2.2⟩,fun e => ?_,fun e => ?_,fun e => ?_⟩
 ·have:=h3 (by rw [e]; rfl)
  simpa using this
 ·have:=h3 (by rw [e]; rfl)
  simpa using this
 ·simp only [e,true_and] at h4
  exact Classical.not_not.1 h4
theorem zaf7 {p : Pg} {n : Nat} {i : In} (h : insE p n i = 0) : chI i = 0 ∧ (i.op = 4 ∨ i.op = 5 → 0 ≤ i.n ∧ i.n ≤ n) ∧ (0 ≤ nob p i.op → 0 ≤ i.o ∧ i.o < nob p i.op) ∧ (i.op = 18 → 0 ≤ i.n ∧ i.n < p.ms.length):=by
 unfold insE at h
 split at h
 ·exact absurd h ‹_›
 rename_i h1
 split at h
 ·cases h
 split at h
 ·cases h
 split at h
 ·cases h
 refine ⟨by omega,by omega,by omega,by omega⟩
structure Rn (p : Pg) (t : Th) : Prop where
 i : InP p t
 b : Tb t
 pc : t.pc ≤ (codeT p t).length
theorem insT_ok {p : Pg} {t : Th} {i : In} (hp : chP p = 0) (h : InP p t) (hi : insT p t = some i) : insE p (codeT p t).length i = 0 ∧ (codeT p t).length ≤ 64 ∧ t.pc < (codeT p t).length:=by
 obtain ⟨F,h1,h2,h3⟩:=codeT_get h
 unfold insT at hi
 rw [h3] at hi ⊢
 have:=chP_ins hp (List.mem_of_getElem? h1) (List.mem_of_getElem? hi)
 have h4:=(List.getElem?_eq_some_iff.1 hi).1
 have h5:=h.p0
 exact ⟨this.1,by omega,by omega⟩
theorem codeT_fn {p : Pg} {t u : Th} (h : u.fn = t.fn) : codeT p u = codeT p t:=by unfold codeT; rw [h]
theorem locT_same (t : Th) (i : In) : (locT t i).1.id = t.id ∧ (locT t i).1.fn = t.fn ∧ (locT t i).1.hd = t.hd:=by
 unfold locT
 repeat' split
 all_goals exact ⟨rfl,rfl,rfl⟩
theorem locT_pc (t : Th) (i : In) : (locT t i).1.pc = t.pc ∨ (locT t i).1.pc = t.pc + 1 ∨ ((i.op = 4 ∨ i.op = 5) ∧ (locT t i).1.pc = i.n):=by
 unfold locT
 repeat' split
 all_goals first | exact .inl rfl | exact .inr (.inl rfl) | exact .inr (.inr ⟨.inl ‹_›,rfl⟩) | exact .inr (.inr ⟨.inr ‹_›,rfl⟩) | exact .inr (.inr ⟨.inr (by assumption),rfl⟩)
theorem locT_rn {p : Pg} {t : Th} {i : In} (hp : chP p = 0) (h : Rn p t) (hi : insT p t = some i) : Rn p (locT t i).1:=by
 obtain ⟨h1,h2,h3⟩:=locT_same t i
 obtain ⟨g1,g2,g3⟩:=insT_ok hp h.i hi
 have g4:=(zaf7 g1).2.1
 have hpc:=locT_pc t i
 have h0:=h.i.p0
 refine ⟨⟨by rw [h2]; exact h.i.f0,by rw [h2]; exact h.i.f1,by omega⟩,⟨by rw [h1]; exact h.b.id,by rw [h3]; exact h.b.hd⟩,?_⟩
 rw [codeT_fn h2]
 omega
abbrev Z17 : TObj:=.plain (.box [.dat (N 0),.dat (N 0),.dat (N 0),.dat (N 0),.dat (N 0),.dat (N 0),.dat (N 0),.dat (N 0),.dat (N 0),.dat (N 0),.dat (N 0),.dat (N 0),.dat (N 0),.dat (N 0),.dat (N 0),.dat (N 0),.nils])
abbrev E245 (bd : Int) (n : Nat) : Env:=[(1,.dat (N bd)),(3,.ref ((4,0),0,0) 0),(5,.ref ((6,0),0,0) 0),(6,.ref ((7,0),0,0) 0),(7,.dat (N n))]
abbrev X245 (p : Pg) (t : Th) : zta7:=[((4,0),.plain (.box ((PDl p).map AVal.dat))),((6,0),.plain (.box (TDc t))),((7,0),Z17)]
def P245 (r : Th) (q : AEx × St) : Prop:=q.1 = .ret ∧ endK [.cell 6 17 true] false 0 q = some (.dat (TD r),[])
theorem set_loop (p : Pg) (hp : chP p = 0) (bd : Int) : ∀ (k n : Nat) (t : Th) (s : St),n + k = 256 → Rn p t → hd [1,3,5,6,7] [3,5,6] s = some ⟨E245 bd n,X245 p t⟩ → Ev (zga7 (exec K l141_0) s) (P245 (setl p bd k t))
 | k,n,t,s,hk,hr,hs => by
  have h1:=run170 p t hr.i
  rw [setl]
  cases c0 : insT p t with
  | none =>
   apply zoc7
   rw [c0] at h1
   simp only [insP] at h1
   simp [P245,hs,h1,run212]
  | some i =>
   rw [c0] at h1
   simp only [insP] at h1
   have h2:=run213 i.op
   have h3:=run214 t i hr.b
   cases c1 : vis i.op
   ·rw [c1] at h2
    simp only [c1,Bool.false_eq_true,if_false]
    cases k with
    | zero =>
     apply zoc7
     have h4 : n = 256:=by omega
     subst h4
     simp [P245,hs,h1,h2,run212]
    | succ k =>
     have h4 : ¬ (n : Int) = 256:=by omega
     have h4' : ¬ n = 256:=by omega
     obtain ⟨g1,g2,g3⟩:=insT_ok hp hr.i c0
     have g4:=(chI_ok (zaf7 g1).1)
     have h5:=run215 t i hr.i.p0 (by omega) g4.2.1 g4.2.2.1
     have hn:=locT_rn hp hr c0
     have ix : Ix n:=by unfold Ix; omega
     rcases c2 : locT t i with ⟨u,b⟩
     rw [c2] at hn
     simp only [locP,c2] at h5
     simp only [c2]
     apply zoc7
     cases b
     ·simp [P245,hs,h1,h2,h4,h4',h5]
     ·simp [hs,h1,h2,h4,h4',h5,ix]
      exact set_loop p hp bd k (n + 1) u _ (by omega) hn (by simp)
   ·rw [c1] at h2
    simp only [c1,if_true]
    apply zoc7
    rcases Classical.propComplete (obs t i = 0) with c2 | c2
    ·by_cases c3 : t.st = bd
     ·simp [P245,hs,h1,h2,h3,c2,c3,run212]
     ·simp [P245,hs,h1,h2,h3,c2,c3]
    ·simp [P245,hs,h1,h2,h3,c2,run212]
end Go.Am.E

set_option maxRecDepth 10000
set_option maxHeartbeats 4000000
namespace Go.Am.E
open Go.Proofs Go.Ex Go.Rc
attribute [-simp] splice
attribute [local simp] zwb7
def TDr (t : Th) (v : Nat) : List AVal:=(TDc t).take 16 ++ [.rsl ((6,1),0,0) v 1 0 t.hd.length]
theorem TDr_unf (t : Th) (v : Nat) : TDr t v = [.dat (N t.id),.dat (N t.fn),.dat (N t.pc),.dat (N (t.rg 0)),.dat (N (t.rg 1)),.dat (N (t.rg 2)),.dat (N (t.rg 3)),.dat (N (t.rg 4)),.dat (N (t.rg 5)),.dat (N (t.rg 6)),.dat (N (t.rg 7)),.dat (N t.st),.dat (N t.ch),.dat (N t.ph),.dat (N t.ss),.dat (N t.ft),.rsl ((6,1),0,0) v 1 0 t.hd.length]:=rfl
theorem zuc7 (t : Th) : TDl t = [N t.id,N t.fn,N t.pc,N (t.rg 0),N (t.rg 1),N (t.rg 2),N (t.rg 3),N (t.rg 4),N (t.rg 5),N (t.rg 6),N (t.rg 7),N t.st,N t.ch,N t.ph,N t.ss,N t.ft,Ns t.hd]:=rfl
theorem TDc_unf (t : Th) : TDc t = [.dat (N t.id),.dat (N t.fn),.dat (N t.pc),.dat (N (t.rg 0)),.dat (N (t.rg 1)),.dat (N (t.rg 2)),.dat (N (t.rg 3)),.dat (N (t.rg 4)),.dat (N (t.rg 5)),.dat (N (t.rg 6)),.dat (N (t.rg 7)),.dat (N t.st),.dat (N t.ch),.dat (N t.ph),.dat (N t.ss),.dat (N t.ft),.dat (Ns t.hd)]:=rfl
theorem TDc_s16r (t : Th) (v : AVal) : splice (TDc t) 16 [v] = (TDc t).take 16 ++ [v]:=by rw [TDc_unf]; rfl
abbrev X245r (p : Pg) (t : Th) : zta7:=[((4,0),.plain (.box ((PDl p).map AVal.dat))),((6,0),.plain (.box (TDr t (cv t.hd)))),((7,0),Z17),((6,1),.plain (.arr 1 (cv t.hd) false (t.hd.map N)))]
theorem set_first (p : Pg) (hp : chP p = 0) (bd : Int) (t : Th) (s : St) (hr : Rn p t) (hs : hd [1,3,5,6,7] [3,5,6] s = some ⟨E245 bd 0,X245r p t⟩) : Ev (zga7 (exec K l141_0) s) (P245 (setl p bd 256 t)):=by
 have h1:=run170 p t hr.i
 have hh:=hr.b.hd
 rw [setl]
 apply zoc7
 cases c0 : insT p t with
 | none =>
  rw [c0] at h1
  simp only [insP,TD,zuc7] at h1
  have h6:=run212 t 2 0
  simp only [TD,zuc7 t] at h6
  simp [P245,hs,h1,h6,TDr_unf]
 | some i =>
  rw [c0] at h1
  simp only [insP,TD,zuc7] at h1
  have h2:=run213 i.op
  have h3:=run214 t i hr.b
  simp only [TD,zuc7] at h3
  cases c1 : vis i.op
  ·rw [c1] at h2
   simp only [c1,Bool.false_eq_true,if_false]
   obtain ⟨g1,g2,g3⟩:=insT_ok hp hr.i c0
   have g4:=(chI_ok (zaf7 g1).1)
   have h5:=run215 t i hr.i.p0 (by omega) g4.2.1 g4.2.2.1
   have hn:=locT_rn hp hr c0
   rcases c2 : locT t i with ⟨u,b⟩
   rw [c2] at hn
   simp only [locP,c2,TD,zuc7 t] at h5
   try simp only [c2]
   cases b
   ·simp [P245,hs,h1,h2,h5,TDr_unf]
   ·simp [hs,h1,h2,h5,TDr_unf]
    exact set_loop p hp bd 255 1 u _ (by omega) hn (by simp)
  ·rw [c1] at h2
   simp only [c1,if_true]
   rcases Classical.propComplete (obs t i = 0) with c2 | c2
   ·by_cases c3 : t.st = bd
    ·have h6:=run212 t 4 0
     simp only [TD,zuc7 t] at h6
     subst c3
     simp [P245,hs,h1,h2,h3,c2,h6,TDr_unf]
    ·simp [P245,hs,h1,h2,h3,c2,c3,TDr_unf,zuc7]
   ·have h6:=run212 t 3 (obs t i)
    simp only [TD,zuc7 t] at h6
    simp [P245,hs,h1,h2,h3,c2,h6,TDr_unf]
theorem run141 (p : Pg) (hp : chP p = 0) (bd : Int) (t : Th) (hr : Rn p t) : K 141 [.dat (PD p),.dat (N bd),.dat (TD t)] [] = some (.dat (TD (setl p bd 256 t)),[]):=by
 have hh:=hr.b.hd
 have h1:=run41 t.hd (by omega)
 refine ce rfl ?_
 simp [h1,TDc_s16r]
 simp only [zaa7]
 refine (set_first p hp bd t _ hr (by simp [h1,TDc_s16r,TDc_unf,TDr_unf])).mono ?_
 rintro ⟨y,s⟩ ⟨rfl,hq⟩
 simp [hq]
end Go.Am.E

set_option maxRecDepth 10000
set_option maxHeartbeats 4000000
namespace Go.Am.E
open Go.Proofs Go.Ex Go.Rc
attribute [-simp] splice
attribute [local simp] zwb7
abbrev D17 : List Dat:=[N 0,N 0,N 0,N 0,N 0,N 0,N 0,N 0,N 0,N 0,N 0,N 0,N 0,N 0,N 0,N 0,.sl []]
def newP (p : Pg) (bd id fn arg : Int) : AVal:=if newE p bd id fn arg = 0 then .tup [.dat (TD (newT p bd id fn arg)),.dat (N 0)] else .tup [.dat (.agg D17),.dat (N (newE p bd id fn arg))]
theorem zTh_l (id fn arg : Int) : TDl (zTh id fn arg) = [N id,N fn,N 0,N arg,N 0,N 0,N 0,N 0,N 0,N 0,N 0,N 0,N 0,N 0,N 1,N 0,.sl []]:=rfl
theorem run93 (p : Pg) (hf : Fit p) (bd id fn arg : Int) (hid : id < 100000000000000) : K 93 [.dat (PD p),.dat (N bd),.dat (N id),.dat (N fn),.dat (N arg)] [] = some (newP p bd id fn arg,[]):=by
 have h1:=run138 p bd hf
 have h2:=run139 id hid
 have h3:=run140 arg
 have e4:=w32_okV arg
 unfold newP newE
 refine ce rfl ?_
 unfold depZ at h2
 rcases Classical.propComplete (stdE p bd = 0) with c1 | c1
 ·cases c2 : dep id with
  | none =>
   simp only [c2] at h2
   simp [h1,h2,c1]
  | some d =>
   simp only [c2] at h2
   by_cases c3 : fn < 0
   ·simp [h1,h2,c1,c3,show ¬ (0 ≤ fn) by omega]
   ·by_cases c4 : (p.fs.length : Int) ≤ fn
    ·simp [h1,h2,c1,c3,c4,show ¬ (fn < (p.fs.length : Int)) by omega]
    ·have c5 : 0 ≤ fn ∧ fn < (p.fs.length : Int):=by omega
     obtain ⟨c5,c6⟩:=c5
     cases c7 : okV arg
     ·rw [c7] at e4
      simp [h1,h2,h3,e4,c1,c3,c4,c5,c6]
     ·rw [c7] at e4
      simp only [eq_self_iff_true] at e4
      have hp : chP p = 0:=by
       have : stdE p bd = 0:=by rw [c1]; trivial
       unfold stdE at this
       split at this
       ·exact absurd this ‹_›
       ·omega
      have hr : Rn p (zTh id fn arg):=⟨⟨c5,c6,Int.le_refl _⟩,⟨hid,by simp [zTh]⟩,by simp [zTh]⟩
      have h4:=run141 p hp bd (zTh id fn arg) hr
      simp only [TD,zTh_l] at h4
      simp [h1,h2,h3,e4,c1,c3,c4,c5,c6,h4,newT]
 ·simp [h1,c1]
theorem frmT_in {p : Pg} {bd : Int} {t : Th} (hb : Tb t) (h : frmT p bd t = true) : Rn p t:=by
 unfold frmT at h
 split at h
 ·cases h
 ·simp only [Bool.and_eq_true,decide_eq_true_eq] at h
  obtain ⟨⟨⟨⟨⟨⟨⟨⟨h1,h2⟩,-⟩,-⟩,-⟩,-⟩,-⟩,-⟩,-⟩:=h
  exact ⟨⟨h1.1,h1.2,h2.1⟩,hb,h2.2⟩
theorem run199 (p : Pg) (hp : chP p = 0) (bd : Int) (t : Th) (hb : Tb t) : K 199 [.dat (PD p),.dat (N bd),.dat (TD t)] [] = some (.dat (.bool (okT p bd t)),[]):=by
 have h1:=run242 p bd t hb
 refine ce rfl ?_
 unfold okT
 cases c1 : frmT p bd t
 ·rw [c1] at h1
  simp [h1]
 ·rw [c1] at h1
  have hr:=frmT_in hb c1
  have h2:=run170 p t hr.i
  cases c2 : insT p t with
  | none =>
   rw [c2] at h2
   simp only [insP] at h2
   by_cases s1 : t.ss = 1
   ·by_cases f0 : t.ft = 0 <;> simp [h1,h2,s1,f0]
   ·by_cases s4 : t.ss = 4
    ·by_cases f0 : t.ft = 0 <;> simp [h1,h2,s1,s4,f0]
    ·by_cases s2 : t.ss = 2
     ·by_cases f0 : t.ft = 0 <;> by_cases p0 : t.ph = 0 <;> simp [h1,h2,s1,s4,s2,f0,p0]
     ·by_cases s3 : t.ss = 3
      ·by_cases p0 : t.ph = 0 <;> simp [h1,h2,s1,s4,s2,s3,p0]
      ·simp [h1,h2,s1,s4,s2,s3]
  | some i =>
   rw [c2] at h2
   simp only [insP] at h2
   have h3:=run213 i.op
   have h4:=run214 t i hb
   obtain ⟨g1,g2,g3⟩:=insT_ok hp hr.i c2
   have g4:=(chI_ok (zaf7 g1).1)
   by_cases s1 : t.ss = 1
   ·by_cases f0 : t.ft = 0
    ·cases v : vis i.op <;> rw [v] at h3
     ·simp [h1,h2,h3,s1,f0,v]
     ·rcases Classical.propComplete (obs t i = 0) with o | o
      ·by_cases b0 : t.st < bd <;> simp [h1,h2,h3,h4,s1,f0,v,o,b0]
      ·simp [h1,h2,h3,h4,s1,f0,v,o]
    ·simp [h1,h2,s1,f0]
   ·by_cases s4 : t.ss = 4
    ·by_cases f0 : t.ft = 0
     ·cases v : vis i.op <;> rw [v] at h3
      ·simp [h1,h2,h3,s1,s4,f0,v]
      ·rcases Classical.propComplete (obs t i = 0) with o | o
       ·by_cases b0 : 1 ≤ t.st <;> simp [h1,h2,h3,h4,s1,s4,f0,v,o,b0]
       ·simp [h1,h2,h3,h4,s1,s4,f0,v,o]
     ·simp [h1,h2,s1,s4,f0]
    ·by_cases s2 : t.ss = 2
     ·by_cases f0 : t.ft = 0 <;> by_cases p0 : t.ph = 0 <;> by_cases o7 : i.op = 7 <;> simp [h1,h2,s1,s4,s2,f0,p0,o7]
     ·by_cases s3 : t.ss = 3
      ·by_cases p0 : t.ph = 0
       ·by_cases f26 : t.ft = 26
        ·by_cases o6 : i.op = 6
         ·have r2:=g4.2.1.2.1
          rw [o6] at r2
          obtain ⟨j,hj,j1,j2,j3,j4⟩:=rg8 (r2 rfl)
          by_cases z : t.rg j = 0 <;> simp [h1,h2,s1,s4,s2,s3,p0,f26,o6,hj,j1,j2,j3,j4,zrb7,zkd7,reg,z]
         ·simp [h1,h2,s1,s4,s2,s3,p0,f26,o6]
        ·by_cases f29 : t.ft = 29
         ·cases v : vis i.op <;> rw [v] at h3 <;> simp [h1,h2,h3,s1,s4,s2,s3,p0,f26,f29,v]
         ·by_cases f0 : t.ft = 0
          ·simp [h1,h2,s1,s4,s2,s3,p0,f26,f29,f0]
          ·rcases Classical.propComplete (obs t i = t.ft) with o | o
           ·simp [h1,h2,h4,s1,s4,s2,s3,p0,f26,f29,f0,o]
           ·simp [h1,h2,h4,s1,s4,s2,s3,p0,f26,f29,f0,o]
       ·simp [h1,h2,s1,s4,s2,s3,p0]
      ·simp [h1,h2,s1,s4,s2,s3]
def vldT (p : Pg) (bd : Int) (t : Th) : Bool:=decide (stdE p bd = 0) && okT p bd t
theorem zvc7 {p : Pg} {bd : Int} (h : stdE p bd = 0) : chP p = 0 ∧ 1 ≤ bd ∧ bd ≤ 32:=by
 unfold stdE at h
 split at h
 ·exact absurd h ‹_›
 ·split at h
  ·cases h
  ·omega
theorem run166 (p : Pg) (hf : Fit p) (bd : Int) (t : Th) (hb : Tb t) : K 166 [.dat (PD p),.dat (N bd),.dat (TD t)] [] = some (.dat (.bool (vldT p bd t)),[]):=by
 have h1:=run138 p bd hf
 refine ce rfl ?_
 unfold vldT
 rcases Classical.propComplete (stdE p bd = 0) with c1 | c1
 ·have h2:=run199 p (zvc7 (by rw [c1]; trivial : stdE p bd = 0)).1 bd t hb
  simp [h1,h2,c1]
 ·simp [h1,c1]
def penP (p : Pg) (t : Th) : AVal:=if t.ss = 1 ∧ vldT p 32 t = true then insP (insT p t) else insP none
theorem run107 (p : Pg) (hf : Fit p) (t : Th) (hb : Tb t) : K 107 [.dat (PD p),.dat (TD t)] [] = some (penP p t,[]):=by
 have h1:=run166 p hf 32 t hb
 refine ce rfl ?_
 unfold penP
 by_cases s1 : t.ss = 1
 ·cases v : vldT p 32 t <;> rw [v] at h1
  ·simp [h1,s1,insP]
  ·have hr : Rn p t:=frmT_in hb (by
    simp only [vldT,okT,Bool.and_eq_true] at v
    exact v.2.1)
   have h2:=run170 p t hr.i
   cases c2 : insT p t <;> rw [c2] at h2 <;> simp only [insP] at h2 <;> simp [h1,s1,h2,insP]
 ·simp [s1,insP]
end Go.Am.E

set_option maxRecDepth 10000
set_option maxHeartbeats 4000000
namespace Go.Am.E
open Go.Proofs Go.Ex Go.Rc
def dd : Int → List Int → List Int
 | _,[] => []
 | p,b :: r => if b = p then dd b r else b :: dd b r
def cmpL : List Int → List Int
 | [] => []
 | a :: r => a :: dd a r
abbrev aI (v : Nat) (A : List Int) : TObj:=.plain (.arr 1 v false (A.map N))
abbrev rI (v n : Nat) : AVal:=.rsl ((0,0),0,0) v 1 0 n
def cmpQ (l : List Int) (v : Nat) (q : AEx × St) : Prop:=q.1 = .exit 2 ∧ ∃ A k,A.length = l.length ∧ cmpL l = A.take k ∧ k ≤ l.length ∧ hd [0,3] [] q.2 = some ⟨[(0,rI v l.length),(3,.dat (N (k : Nat)))],[((0,0),aI v A)]⟩
theorem cmp_inner (l : List Int) (hl : l.length < 1000000000000) (v j : Nat) (hj : j < l.length) : ∀ (m k2 k : Nat) (A : List Int) (s : St),k2 + m = l.length - j → 1 ≤ k2 → 1 ≤ k → k + 1 ≤ j + k2 → A.length = l.length → A.drop (j + k2 - 1) = l.drop (j + k2 - 1) →
  (∀ p,l[j + k2 - 1]? = some p → cmpL l = A.take k ++ dd p (l.drop (j + k2))) →
  hd [0,3,4,5] [] s = some ⟨[(0,rI v l.length),(3,.dat (N k)),(4,.rsl ((0,0),0,0) v 1 j (l.length - j)),(5,.dat (N k2))],[((0,0),aI v A)]⟩ →
  Ev (zga7 (exec K l268_0) s) (cmpQ l v)
 | 0,k2,k,A,s,hm,h1,hk,hk2,hA,hd1,hc,hs => by
  have e : k2 = l.length - j:=by omega
  obtain ⟨p,p1,p2⟩:=zib7 l (i:=j + k2 - 1) (by omega)
  have hc:=hc p p1
  rw [drop_none (by omega),dd,List.append_nil] at hc
  have h2 : ¬ ((k2 : Int) < ((l.length - j : Nat) : Int)):=by omega
  apply zoc7
  simp [hs,h2,cmpQ]
  exact ⟨A,hA,k,hc,by omega,rfl,rfl⟩
 | m + 1,k2,k,A,s,hm,h1,hk,hk2,hA,hd1,hc,hs => by
  obtain ⟨p,p1,p2⟩:=zib7 l (i:=j + k2 - 1) (by omega)
  obtain ⟨b,b1,b2⟩:=zib7 l (i:=j + k2) (by omega)
  have hc:=hc p p1
  rw [zec7 b1,dd] at hc
  have h2 : ((k2 : Int) < ((l.length - j : Nat) : Int)):=by omega
  have ix : Ix k2:=by unfold Ix; omega
  have ixk : Ix k:=by unfold Ix; omega
  have a1 : A[j + k2]? = some b:=by
   have:=congrArg (fun L => L[1]?) hd1
   simp only [List.getElem?_drop] at this
   rw [show j + k2 - 1 + 1 = j + k2 by omega] at this
   rw [this,b1]
  have a0 : A[j + k2 - 1]? = some p:=by
   have:=congrArg (fun L => L[0]?) hd1
   simp only [List.getElem?_drop,Nat.add_zero] at this
   rw [this,p1]
  have w : IntKind.wrap .i64 ((k2 : Int) - 1) = ((k2 - 1 : Nat) : Int):=by
   rw [wrap_i64 (by omega) (by omega)]; omega
  have h3 : ((k2 - 1 : Nat) : Int) < ((l.length - j : Nat) : Int):=by omega
  have e1 : j + (k2 - 1) = j + k2 - 1:=by omega
  apply zoc7
  by_cases c : b = p
  ·subst c
   rw [if_pos rfl] at hc
   simp [hs,h2,w,h3,e1,ix,a0,a1]
   refine cmp_inner l hl v j hj m (k2 + 1) k A _ (by omega) (by omega) hk (by omega) hA ?_ ?_ (by simp)
   ·rw [show j + (k2 + 1) - 1 = (j + k2 - 1) + 1 by omega,← List.drop_drop,← List.drop_drop,hd1]
   ·rw [show j + (k2 + 1) - 1 = j + k2 by omega]
    intro p hp
    rw [b1] at hp
    obtain rfl:=Option.some.inj hp
    exact hc
  ·rw [if_neg c] at hc
   have k1 : (k : Int) < l.length:=by omega
   have k2' : k < A.length:=by omega
   obtain ⟨x,x1,x2⟩:=zib7 A k2'
   have c' : ¬ p = b:=fun h => c h.symm
   simp [hs,h2,w,h3,e1,ix,ixk,a0,a1,c,c',k1,k2',hA,x1,x2]
   refine cmp_inner l hl v j hj m (k2 + 1) (k + 1) (A.set k b) _ (by omega) (by omega) (by omega) (by omega) (by simp [hA]) ?_ ?_ (by simp)
   ·rw [show j + (k2 + 1) - 1 = (j + k2 - 1) + 1 by omega,List.drop_set_of_lt (by omega),← List.drop_drop,← List.drop_drop,hd1]
   ·rw [show j + (k2 + 1) - 1 = j + k2 by omega]
    intro p hp
    rw [b1] at hp
    obtain rfl:=Option.some.inj hp
    rw [hc,List.take_succ_eq_append_getElem (by simpa using k2')]
    simp [show j + (k2 + 1) = j + k2 + 1 by omega,List.take_set_of_le]
def owned (r : Option (AVal × List TObj)) (l : List Int) : Prop:=∃ (v : Nat) (A : List Int),r = some (rI v l.length,[aI v A]) ∧ A.take l.length = l ∧ l.length ≤ A.length ∧ A.length < 1000000000000
def cmpP (l : List Int) (v : Nat) (q : AEx × St) : Prop:=(q.1 = .exit 0 ∧ cmpL l = l ∧ hd [0] [] q.2 = some ⟨[(0,rI v l.length)],[((0,0),aI v l)]⟩) ∨ (q.1 = .ret ∧ owned (endK [.t 2] true 1 q) (cmpL l))
theorem cmp_loop (l : List Int) (hl : l.length < 1000000000000) (v : Nat) : ∀ (m i : Nat) (p : Int) (s : St),i + 1 + m = l.length → l[i]? = some p → cmpL l = l.take (i + 1) ++ dd p (l.drop (i + 1)) →
  hd [0,3] [] s = some ⟨[(0,rI v l.length),(3,.dat (N (i + 1 : Nat)))],[((0,0),aI v l)]⟩ → Ev (zga7 (exec K l268_1) s) (cmpP l v)
 | 0,i,p,s,hm,hp,hc,hs => by
  have h2 : ¬ ((i : Int) + 1 < l.length):=by omega
  rw [drop_none (by omega),dd,List.append_nil,List.take_of_length_le (by omega)] at hc
  apply zoc7
  simp [hs,h2,cmpP,hc]
 | m + 1,i,p,s,hm,hp,hc,hs => by
  have h2 : (i : Int) + 1 < l.length:=by omega
  have h3 : (i : Int) < l.length:=by omega
  obtain ⟨b,b1,b2⟩:=zib7 l (i:=i + 1) (by omega)
  have p2:=(List.getElem?_eq_some_iff.1 hp).2
  have ix : Ix (i + 1):=by unfold Ix; omega
  have wS : IntKind.wrap .i64 ((i : Int) + 1 + 1) = i + 1 + 1:=wrap_i64 (by omega) (by omega)
  have w : IntKind.wrap .i64 (i : Int) = i:=wrap_i64 (by omega) (by omega)
  rw [zec7 b1,dd] at hc
  apply zoc7
  by_cases c : b = p
  ·subst c
   rw [if_pos rfl] at hc
   have h4 : (i : Int) + 1 ≤ l.length:=by omega
   have e2 : ((l.length : Int) - (i + 1)).toNat = l.length - (i + 1):=by omega
   simp [hs,h2,h3,w,b1,hp,h4,e2]
   simp only [zaa7]
   refine (cmp_inner l hl v (i + 1) (by omega) (l.length - (i + 1) - 1) 1 (i + 1) l _ (by omega) (by omega) (by omega) (by omega) rfl rfl ?_ (by simp [hs,h2,h3,w,b1,hp,h4,e2])).mono ?_
   ·rw [show i + 1 + 1 - 1 = i + 1 by omega]
    intro p hp2
    rw [b1] at hp2
    obtain rfl:=Option.some.inj hp2
    exact hc
   ·rintro ⟨y,s⟩ ⟨rfl,A,k,g1,g2,g3,hq⟩
    have k1 : (k : Int) ≤ l.length:=by omega
    have k2 : k ≤ A.length:=by omega
    have e3 : ((l.length : Int) - k).toNat = l.length - k:=by omega
    have e4 : k + (l.length - k) = l.length:=by omega
    have e5 : (k + (l.length - k) ≤ A.length) = True:=by simp; omega
    simp [hq,k1,e3,e4,g1,cmpP]
    have e6 : (cmpL l).length = k:=by rw [g2,List.length_take]; omega
    refine ⟨v,A.take k ++ List.replicate (l.length - k) 0,?_,?_,?_,?_⟩
    ·rw [e6]; simp; omega
    ·rw [e6,g2,List.take_append_of_le_length (by simp; omega),List.take_take,Nat.min_self]
    ·simp; omega
    ·simp; omega
  ·rw [if_neg c] at hc
   simp [hs,h2,h3,w,wS,b1,hp,c]
   refine cmp_loop l hl v m (i + 1) b _ (by omega) b1 ?_ (by simp)
   rw [hc,zhe7 b1]
   simp
end Go.Am.E

set_option maxRecDepth 10000
set_option maxHeartbeats 4000000
namespace Go.Am
theorem insS_perm (x : Int) : ∀ l : List Int,(insS x l).Perm (x :: l)
 | [] => List.Perm.refl _
 | y :: r => by
  simp only [insS]
  split
  ·exact List.Perm.refl _
  ·exact ((insS_perm x r).cons y).trans (List.Perm.swap x y r)
theorem zxb7 : ∀ l : List Int,(sortS l).Perm l
 | [] => List.Perm.refl _
 | x :: r => (insS_perm x _).trans ((zxb7 r).cons x)
theorem insS_pw (x : Int) : ∀ l : List Int,l.Pairwise (· ≤ ·) → (insS x l).Pairwise (· ≤ ·)
 | [],_ => by simp [insS]
 | y :: r,h => by
  have h':=List.pairwise_cons.1 h
  simp only [insS]
  split
  ·rename_i hxy
   refine List.pairwise_cons.2 ⟨fun z hz => ?_,h⟩
   rcases List.mem_cons.1 hz with rfl | hz
   ·exact hxy
   ·have:=h'.1 z hz; omega
  ·rename_i hxy
   refine List.pairwise_cons.2 ⟨fun z hz => ?_,insS_pw x r h'.2⟩
   rcases List.mem_cons.1 ((insS_perm x r).mem_iff.1 hz) with rfl | hz
   ·omega
   ·exact h'.1 z hz
theorem sortS_pw : ∀ l : List Int,(sortS l).Pairwise (· ≤ ·)
 | [] => List.Pairwise.nil
 | x :: r => insS_pw x _ (sortS_pw r)
theorem pw_uniq : ∀ {a b : List Int},a.Pairwise (· ≤ ·) → b.Pairwise (· ≤ ·) → a.Perm b → a = b
 | [],b,_,_,h => (List.nil_perm.1 h).symm
 | x :: r,[],_,_,h => by cases List.perm_nil.1 h
 | x :: r,y :: s,ha,hb,h => by
  have ha':=List.pairwise_cons.1 ha
  have hb':=List.pairwise_cons.1 hb
  have h1 : x ≤ y:=by
   rcases List.mem_cons.1 (h.mem_iff.2 (List.mem_cons_self ..)) with e | e
   ·omega
   ·exact ha'.1 _ e
  have h2 : y ≤ x:=by
   rcases List.mem_cons.1 (h.mem_iff.1 (List.mem_cons_self ..)) with e | e
   ·omega
   ·exact hb'.1 _ e
  have e : x = y:=by omega
  subst e
  rw [pw_uniq ha'.2 hb'.2 (List.perm_cons x |>.1 h)]
theorem intsD_map : ∀ l : List Int,intsD (l.map fun n => Dat.int .i64 n) = some l
 | [] => rfl
 | x :: r => by simp only [List.map_cons,intsD,intsD_map r,Option.map_some]
theorem callT_law [Glob] {tbl : Tab} {f : FuncId} {args : List AVal} {os : List TObj} {r : AVal × List TObj} (hf : tbl.fn f = none) (h : tbl.law f args os = some r) (hne : f ≠ YID:=by decide) : callT tbl f args os = some r :=
 callT_iff.2 ⟨1,by rw [Kn]; simp only [if_neg hne,hf]; exact h⟩
end Go.Am
namespace Go.Am.E
open Go.Proofs Go.Ex Go.Rc
theorem incr_pw : ∀ {l : List Int},incr l = true → l.Pairwise (· < ·)
 | [],_ => List.Pairwise.nil
 | [a],_ => by simp
 | a :: b :: r,h => by
  simp only [incr,Bool.and_eq_true,decide_eq_true_eq] at h
  have ih:=incr_pw h.2
  have ih':=List.pairwise_cons.1 ih
  refine List.pairwise_cons.2 ⟨fun z hz => ?_,ih⟩
  rcases List.mem_cons.1 hz with rfl | hz
  ·exact h.1
  ·have:=ih'.1 z hz; omega
theorem pw_le {l : List Int} (h : l.Pairwise (· < ·)) : l.Pairwise (· ≤ ·):=h.imp fun h => by omega
theorem sortS_id {l : List Int} (h : l.Pairwise (· ≤ ·)) : sortS l = l:=pw_uniq (sortS_pw l) h (zxb7 l)
theorem dd_id : ∀ {a : Int} {l : List Int},(a :: l).Pairwise (· < ·) → dd a l = l
 | a,[],_ => rfl
 | a,b :: r,h => by
  have h':=List.pairwise_cons.1 h
  have : a < b:=h'.1 b (by simp)
  rw [dd,if_neg (by omega),dd_id h'.2]
theorem cmpL_id {l : List Int} (h : l.Pairwise (· < ·)) : cmpL l = l:=by
 cases l with
 | nil => rfl
 | cons a r => rw [cmpL,dd_id h]
theorem sortS_app {l : List Int} (n : Int) (h : l.Pairwise (· ≤ ·)) : sortS (l ++ [n]) = insS n l :=
 pw_uniq (sortS_pw _) (insS_pw n l h) ((zxb7 _).trans (List.perm_append_comm.trans (insS_perm n l).symm))
theorem cmpL_ins (n : Int) : ∀ {l : List Int},l.Pairwise (· < ·) → cmpL (insS n l) = ins n l
 | [],_ => rfl
 | a :: r,h => by
  have h':=List.pairwise_cons.1 h
  simp only [insS,ins]
  by_cases c1 : n < a
  ·rw [if_pos (by omega),if_pos c1,cmpL,dd,if_neg (by omega),dd_id h]
  ·by_cases c2 : n = a
   ·subst c2
    rw [if_pos (by omega),if_neg c1,if_pos rfl,cmpL,dd,if_pos rfl,dd_id h]
   ·rw [if_neg (by omega),if_neg c1,if_neg c2,cmpL]
    have ih:=cmpL_ins n h'.2
    congr 1
    rw [← ih]
    cases hi : insS n r with
    | nil => rfl
    | cons b m =>
     have hb : b ∈ insS n r:=by rw [hi]; simp
     have : b ≠ a:=by
      rcases List.mem_cons.1 ((insS_perm n r).mem_iff.1 hb) with rfl | hb
      ·exact c2
      ·have:=h'.1 b hb; omega
     rw [dd,if_neg this,cmpL]
theorem ins_pw (n : Int) : ∀ {l : List Int},l.Pairwise (· < ·) → (ins n l).Pairwise (· < ·) ∧ (∀ x,x ∈ ins n l ↔ x = n ∨ x ∈ l)
 | [],_ => ⟨by simp [ins],by simp [ins]⟩
 | a :: r,h => by
  have h':=List.pairwise_cons.1 h
  obtain ⟨ih,ih2⟩:=ins_pw n h'.2
  simp only [ins]
  by_cases c1 : n < a
  ·rw [if_pos c1]
   refine ⟨List.pairwise_cons.2 ⟨fun z hz => ?_,h⟩,by simp⟩
   rcases List.mem_cons.1 hz with rfl | hz
   ·exact c1
   ·have:=h'.1 z hz; omega
  ·rw [if_neg c1]
   by_cases c2 : n = a
   ·rw [if_pos c2]
    exact ⟨h,by simp [c2]⟩
   ·rw [if_neg c2]
    refine ⟨List.pairwise_cons.2 ⟨fun z hz => ?_,ih⟩,fun x => ?_⟩
    ·rcases (ih2 z).1 hz with rfl | hz
     ·omega
     ·exact h'.1 z hz
    ·simp only [List.mem_cons,ih2]
     constructor <;> (intro h; rcases h with h | h | h <;> simp [h])
theorem run61 (v : Nat) (A : List Int) (hl : A.length < 10000000000) : K 61 [rI v A.length] [aI v A] = some (.tup [],[aI v (sortS A)]):=by
 refine callT_law rfl ?_
 simp only [tblE,lawE,memoL,sortE,if_true,List.length_map,intsD_map,and_self,hl,true_and]
theorem run268 (v : Nat) (l : List Int) (hl : l.length < 1000000000000) : owned (K 268 [rI v l.length] [aI v l]) (cmpL l):=by
 have key : Ev (zwc7 K fn268 [rI v l.length] [aI v l]) fun r => owned (some r) (cmpL l):=by
  match l with
  | [] =>
   simp [cmpL]
   exact ⟨v,[],rfl,rfl,by simp,by simp⟩
  | [a] =>
   simp [cmpL]
   exact ⟨v,[a],rfl,rfl,by simp [dd],by simp⟩
  | a :: b :: r =>
   have h2 : ¬ ((r.length : Int) + 1 + 1 < 2):=by omega
   generalize hL : a :: b :: r = L at *
   have hlen : L.length = r.length + 2:=by rw [← hL]; rfl
   have h3 : ¬ ((L.length : Int) < 2):=by omega
   simp [h3]
   simp only [zaa7]
   refine (cmp_loop L hl v (r.length + 1) 0 a _ (by omega) (by rw [← hL]; rfl) (by rw [← hL]; rfl) (by simp [h3])).mono ?_
   rintro ⟨y,s⟩ hq
   rcases hq with ⟨rfl,hc,hq⟩ | ⟨rfl,hq⟩
   ·simp [hq]
    exact ⟨v,L,by rw [hc],by rw [hc]; simp,by rw [hc]; simp,hl⟩
   ·obtain ⟨w,A,h1,h4⟩:=hq
    simp [h1]
    exact ⟨w,A,rfl,h4⟩
 obtain ⟨r,h1,v',A,h2,h3⟩:=key
 injection h2 with h2
 subst h2
 exact ⟨v',A,ce (fn:=fn268) rfl ⟨_,h1,rfl⟩,h3⟩
theorem run243 (l : List Int) (hl : l.length < 10000000000) : owned (K 243 [.dat (Ns l)] []) (cmpL (sortS l)):=by
 have h1:=run41 l hl
 have h2:=run61 (cv l) l hl
 have hs : (sortS l).length = l.length:=(zxb7 l).length_eq
 obtain ⟨v,A,h3,h4,h5,h6⟩:=run268 (cv l) (sortS l) (by omega)
 rw [hs] at h3
 refine ⟨v,A,ce rfl ?_,h4,h5,h6⟩
 simp [h1,h2,h3]
end Go.Am.E

set_option maxRecDepth 10000
set_option maxHeartbeats 4000000
namespace Go.Am.E
open Go.Proofs Go.Ex Go.Rc
theorem run202 (l : List Int) (n : Int) (hl : l.length < 1000000000) (hi : incr l = true) : owned (K 202 [.dat (Ns l),.dat (N n)] []) (ins n l):=by
 have h1:=run41 l (by omega)
 have h2:=run243 (l ++ [n]) (by simp; omega)
 rw [sortS_app n (pw_le (incr_pw hi)),cmpL_ins n (incr_pw hi)] at h2
 obtain ⟨v,A,h3,h4,h5,h6⟩:=h2
 have h7 : (l.length + 1) * 9 ≤ 1099511627776:=by omega
 simp only [Ns,List.map_append,List.map_cons,List.map_nil] at h3
 refine ⟨v,A,ce rfl ?_,h4,h5,h6⟩
 simp [h1,h3,h7]
theorem sorted_incr {l : List Int} (h : incr l = true) : cmpL (sortS l) = l:=by rw [sortS_id (pw_le (incr_pw h)),cmpL_id (incr_pw h)]
def flt (o : List Int) (b : Bool) (l : List Int) : List Int:=l.filter fun x => o.contains x == b
theorem run244 (l o : List Int) (b : Bool) (hl : l.length < 1000000000) (ho : o.length < 1000000000) (hi : incr l = true) : K 244 [.dat (Ns l),.dat (Ns o),.dat (.bool b)] [] = some (.dat (Ns (flt o b l)),[]):=by
 have h2:=run243 l (by omega)
 rw [sorted_incr hi] at h2
 obtain ⟨v,A,h3,h4,h5,h6⟩:=h2
 refine ce rfl ?_
 have h7 : A.length * 9 ≤ 109951162777600:=by omega
 simp [h3]
 simp only [zaa7]
 refine (zjb7 (live:=[1,2,7,11,12,13]) (drop:=[1,7,11]) l (by omega) (fun k => ⟨[(1,.dat (Ns o)),(2,.dat (.bool b)),(7,.rsl ((8,0),0,0) (flt o b (l.take k)).length 1 0 (flt o b (l.take k)).length),(11,.rsl ((12,0),0,0) v 1 0 l.length),(12,.dat (N l.length)),(13,.dat (N k))],
   [((8,0),.plain (.arr 1 (flt o b (l.take k)).length false ((flt o b (l.take k)).map N))),((12,0),.plain (.arr 1 v false (A.map N)))]⟩)
  (fun k q => q.1 = .exit 0 ∧ ∃ os,hd [7] [] q.2 = some ⟨[(7,.rsl ((8,0),0,0) (flt o b l).length 1 0 (flt o b l).length)],((8,0),.plain (.arr 1 (flt o b l).length false ((flt o b l).map N))) :: os⟩)
  (fun i y s g1 g2 g3 ix hs => ?_) (fun s hs => ?_) _ (by simp [h3,flt])).mono ?_
 ·have h8:=run28 o y (by omega)
  have a1 : A[i]? = some y:=by
   have:=congrArg (fun L => L[i]?) h4
   simp only [List.getElem?_take] at this
   rw [if_pos (by omega),g1] at this
   exact this
  have e:=zhe7 g1
  have e2 : flt o b (l.take (i + 1)) = flt o b (l.take i) ++ (if decide (y ∈ o) = b then [y] else []):=by
   rw [e]; simp only [flt,List.filter_append]
   congr 1
   by_cases c : decide (y ∈ o) = b <;> simp [c]
  have hlen : (flt o b (l.take i)).length ≤ l.length:=Nat.le_trans (List.length_filter_le ..) (by simp; omega)
  have h9 : ((flt o b (l.take i)).length + 1) * 9 ≤ 1099511627776:=by omega
  by_cases c : decide (y ∈ o) = b
  rotate_left
  ·simp only [c,if_false,List.append_nil] at e2
   simp [hs,g3,h8,c,e2,ix,a1]
  ·simp only [c,if_true] at e2
   simp [hs,g3,h8,c,e2,ix,a1,h9]
 ·simp [hs]
 ·rintro ⟨y,s⟩ ⟨rfl,os,hq⟩
  simp [hq]
theorem run203 (l : List Int) (n : Int) (hl : l.length < 1000000000) (hi : incr l = true) : K 203 [.dat (Ns l),.dat (N n)] [] = some (.dat (Ns (del n l)),[]):=by
 have h1:=run244 l [n] false hl (by simp) hi
 have e : flt [n] false l = del n l:=by
  unfold flt del
  congr 1
  funext x
  by_cases c : x = n <;> simp [c]
 rw [e] at h1
 simp only [Ns,List.map_cons,List.map_nil] at h1
 exact ce rfl (by simp [h1])
end Go.Am.E

set_option maxRecDepth 10000
set_option maxHeartbeats 4000000
namespace Go.Am.E
open Go.Proofs Go.Ex Go.Rc
attribute [-simp] splice
attribute [local simp] zwb7
def dfnP (i : In) : AVal:=match dfn i with
 | some a => .tup [.dat (N a),.dat (.bool true)]
 | none => .tup [.dat (N 0),.dat (.bool false)]
theorem run200 (i : In) : K 200 [.dat (ID i)] [] = some (dfnP i,[]):=by
 have h1:=run209 i
 refine ce rfl ?_
 unfold dfnP dfn
 rcases Classical.propComplete (chI i = 0) with c | c
 ·have hk:=(chI_ok (by rw [c]; trivial : chI i = 0)).1
  simp only [kn,decide_eq_true_eq] at hk
  obtain ⟨k,hk1,hk2⟩ : ∃ k : Nat,i.op = (k : Int) + 1 ∧ k < 22:=⟨(i.op - 1).toNat,by omega,by omega⟩
  match k,hk2 with
  | 0,_ | 1,_ | 2,_ | 3,_ | 4,_ | 5,_ | 6,_ | 7,_ | 8,_ | 9,_ | 10,_ | 11,_ | 12,_ | 13,_ | 14,_ | 15,_ | 16,_ | 17,_ | 18,_ | 19,_ | 20,_ | 21,_ => simp [h1,c,hk1,glob1,uk,us,kn,ut]
  | n + 22,h => exact absurd h (by omega)
 ·simp [h1,c]
theorem run201 (t : Th) (m : Int) (hb : t.hd.length < 1000000000) (hi : incr t.hd = true) (hp : 0 ≤ t.pc) (hp2 : t.pc < 100000000000) : K 201 [.dat (TD t),.dat (N m)] [] = some (.dat (TD (waitT t m)),[]):=by
 have h1:=run203 t.hd m hb hi
 obtain ⟨v,A,h2,h3,h4,h5⟩:=run202 t.hd m hb hi
 have w : IntKind.wrap .i64 (t.pc + 1) = t.pc + 1:=wrap_i64 (by omega) (by omega)
 refine ce rfl ?_
 unfold waitT
 by_cases c1 : t.ph = 0
 ·simp [h1,c1]
 ·by_cases c2 : t.ph = 1
  ·simp [c1,c2]
  ·have h6 : (ins m t.hd).length ≤ A.length:=h4
   simp [h2,c1,c2,w,TDc_unf,zuc7,h6,h3,← List.map_take]
end Go.Am.E

set_option maxRecDepth 10000
set_option maxHeartbeats 8000000
namespace Go.Am.E
open Go.Proofs Go.Ex Go.Rc
attribute [-simp] splice
attribute [local simp] zwb7
theorem incr_len : ∀ {l : List Int} {lo n : Int},l.Pairwise (· < ·) → (∀ x ∈ l,lo ≤ x ∧ x < n) → l.length ≤ (n - lo).toNat
 | [],_,_,_,_ => by simp
 | a :: r,lo,n,h,hb => by
  have h':=List.pairwise_cons.1 h
  have h1:=hb a (by simp)
  have ih:=incr_len (l:=r) (lo:=a + 1) (n:=n) h'.2 fun x hx => ⟨by have:=h'.1 x hx; omega,(hb x (by simp [hx])).2⟩
  simp only [List.length_cons]
  omega
structure Fr (p : Pg) (bd : Int) (t : Th) : Prop where
 rg : ∀ j,j < 8 → isVal (t.rg j)
 st : 0 ≤ t.st ∧ t.st ≤ bd
 ch : 0 ≤ t.ch ∧ t.ch ≤ 7
 hd : incr t.hd = true
 hl : t.hd.length ≤ 4
 id : dep t.id ≠ none
theorem chP_lim {p : Pg} (h : chP p = 0) : p.vs.length ≤ 8 ∧ p.ms.length ≤ 4 ∧ p.cs.length ≤ 4 ∧ p.fs.length ≤ 8:=by
 have h1:=zgf7 h (limE p) (by simp)
 unfold limE at h1
 split at h1
 ·cases h1
 ·omega
theorem frmT_fr {p : Pg} {bd : Int} {t : Th} (hp : chP p = 0) (h : frmT p bd t = true) : Fr p bd t:=by
 unfold frmT at h
 split at h
 ·cases h
 ·rename_i d hd
  simp only [Bool.and_eq_true,decide_eq_true_eq,List.all_eq_true,List.mem_range] at h
  obtain ⟨⟨⟨⟨⟨⟨⟨⟨h1,h2⟩,h3⟩,h4⟩,h5⟩,h6⟩,h7⟩,h8⟩,-⟩:=h
  have:=incr_len (incr_pw h7) h8
  have:=chP_lim hp
  exact ⟨fun j hj => okV_iff.1 (h3 j hj),h4,h5,h7,by omega,by rw [hd]; simp⟩
def cmpPr (p : Pg) (bd : Int) (t : Th) (v : Int) : AVal:=if Go.Ex.cmpE p bd t v = 0 then .tup [.dat (TD (cmpT p bd t v)),.dat (N 0)] else .tup [.dat (.agg D17),.dat (N (Go.Ex.cmpE p bd t v))]
theorem okT_run {p : Pg} {bd : Int} {t : Th} (h : okT p bd t = true) (hs : t.ss = 1) : frmT p bd t = true ∧ ∃ i,insT p t = some i ∧ vis i.op = true ∧ obs t i = 0 ∧ t.st < bd ∧ t.ft = 0:=by
 unfold okT at h
 rw [Bool.and_eq_true] at h
 refine ⟨h.1,?_⟩
 have h:=h.2
 cases c : insT p t with
 | none => rw [c] at h; simp [hs] at h
 | some i =>
  rw [c] at h
  simp [hs] at h
  exact ⟨i,rfl,h.1.1.2,h.1.2,h.2,h.1.1.1⟩
theorem dfn_lt {i : In} {a : Int} (h : dfn i = some a) : 0 ≤ a ∧ a < 8 ∧ i.a = a:=by
 unfold dfn at h
 split at h
 ·rename_i h1
  injection h with h
  subst h
  have:=(chI_ok h1.1).2.1.1 h1.2
  exact ⟨this.1,this.2,rfl⟩
 ·cases h
theorem rn_bump {p : Pg} {t u : Th} {i : In} (hp : chP p = 0) (h : Rn p t) (hi : insT p t = some i) (h1 : u.fn = t.fn) (h2 : u.pc = t.pc ∨ u.pc = t.pc + 1) (h3 : u.id = t.id) (h4 : u.hd.length < 1000000000) : Rn p u:=by
 obtain ⟨g1,g2,g3⟩:=insT_ok hp h.i hi
 have h0:=h.i.p0
 refine ⟨⟨by rw [h1]; exact h.i.f0,by rw [h1]; exact h.i.f1,by omega⟩,⟨by rw [h3]; exact h.b.id,h4⟩,?_⟩
 rw [codeT_fn h1]
 omega
theorem ins_len (n : Int) : ∀ l : List Int,(ins n l).length ≤ l.length + 1
 | [] => by simp [ins]
 | a :: r => by
  have:=ins_len n r
  simp only [ins]
  split
  ·simp
  ·split
   ·simp
   ·simp; omega
theorem nxtT_same (t : Th) (i : In) (v : Int) : (nxtT t i v).fn = t.fn ∧ (nxtT t i v).id = t.id ∧ ((nxtT t i v).pc = t.pc ∨ (nxtT t i v).pc = t.pc + 1) ∧ (nxtT t i v).hd.length ≤ t.hd.length + 1:=by
 have h1:=ins_len i.o t.hd
 have h2:=ins_len i.n t.hd
 have h3 : (del i.o t.hd).length ≤ t.hd.length:=List.length_filter_le ..
 have h4 : (del i.n t.hd).length ≤ t.hd.length:=List.length_filter_le ..
 unfold nxtT waitT
 cases dfn i <;> dsimp only [setR] <;> repeat' split
 all_goals refine ⟨rfl,rfl,?_,?_⟩
 all_goals first | exact .inl rfl | exact .inr rfl | (dsimp only; omega)
theorem TDc_t16 (t : Th) : (TDc t).take 16 = [.dat (N t.id),.dat (N t.fn),.dat (N t.pc),.dat (N (t.rg 0)),.dat (N (t.rg 1)),.dat (N (t.rg 2)),.dat (N (t.rg 3)),.dat (N (t.rg 4)),.dat (N (t.rg 5)),.dat (N (t.rg 6)),.dat (N (t.rg 7)),.dat (N t.st),.dat (N t.ch),.dat (N t.ph),.dat (N t.ss),.dat (N t.ft)]:=rfl
theorem run128 (p : Pg) (hf : Fit p) (bd : Int) (t : Th) (hb : Tb t) (v : Int) : K 128 [.dat (PD p),.dat (N bd),.dat (TD t),.dat (N v)] [] = some (cmpPr p bd t v,[]):=by
 have h1:=run138 p bd hf
 have h2:=run140 v
 have e2:=w32_okV v
 unfold cmpPr Go.Ex.cmpE
 refine ce rfl ?_
 rcases Classical.propComplete (stdE p bd = 0) with c1 | c1
 ·have hst:=zvc7 (by rw [c1]; trivial : stdE p bd = 0)
  have hp:=hst.1
  have h3:=run199 p hp bd t hb
  cases c2 : okT p bd t
  ·rw [c2] at h3
   simp [h1,h3,c1]
  ·rw [c2] at h3
   rcases Classical.propComplete (t.ss = 1) with c3 | c3
   ·cases c4 : okV v
    ·rw [c4] at e2
     simp [h1,h2,e2,h3,c1,c3]
    ·rw [c4] at e2
     simp only [eq_self_iff_true] at e2
     obtain ⟨hfr,i,hi,hv,ho,hlt,hft⟩:=okT_run c2 (by rw [c3]; trivial)
     have hr:=frmT_in hb hfr
     have F:=frmT_fr hp hfr
     obtain ⟨r1,⟨s1,s2⟩,⟨ch1,ch2⟩,hinc,hlen,hid⟩:=F
     have h4:=run170 p t hr.i
     rw [hi] at h4
     simp only [insP] at h4
     obtain ⟨g1,g2,g3⟩:=insT_ok hp hr.i hi
     have h0:=hr.i.p0
     have h5:=run200 i
     have ws : IntKind.wrap .i64 (t.st + 1) = t.st + 1:=wrap_i64 (by omega) (by omega)
     have wp : IntKind.wrap .i64 (t.pc + 1) = t.pc + 1:=wrap_i64 (by omega) (by omega)
     have wc : IntKind.wrap .i64 (t.ch + 1) = t.ch + 1:=wrap_i64 (by omega) (by omega)
     obtain ⟨q1,q2,q3,q4⟩:=nxtT_same t i v
     have h7:=run141 p hp bd (nxtT t i v) (rn_bump hp hr hi q1 q3 q2 (by omega))
     have e3 : cmpT p bd t v = setl p bd 256 (nxtT t i v):=by unfold cmpT; rw [hi]
     rw [e3]
     generalize setl p bd 256 (nxtT t i v) = R at h7
     unfold nxtT at h7
     unfold dfnP at h5
     cases c5 : dfn i with
     | none =>
      rw [c5] at h5 h7
      simp only at h5 h7
      by_cases o18 : i.op = 18
      ·have h6:=run201 { t with st:=t.st + 1 } i.n (by simp; omega) hinc h0 (by simp; omega)
       simp only [o18,if_true] at h7
       simp [h1,h2,e2,h3,h4,h5,h6,h7,c1,c3,o18,ws]
      ·by_cases o17 : i.op = 17
       ·by_cases v0 : v = 0
        ·simp [o18,o17,v0,setR] at h7
         subst v0
         simp [h1,h2,e2,h3,h4,h5,c1,c3,ws,o18,o17,wp,h7]
        ·obtain ⟨w,A,h8,h9,h10,h11⟩:=run202 t.hd i.o (by omega) hinc
         simp [o18,o17,v0] at h7
         simp only [TD,zuc7] at h7
         simp [h1,h2,e2,h3,h4,h5,c1,c3,ws,o18,o17,v0,wp,h7,h8,h9,h10,← List.map_take,TDc_s16r,TDc_t16]
         exact (zuc7 R).symm
       ·by_cases o15 : i.op = 15
        ·obtain ⟨w,A,h8,h9,h10,h11⟩:=run202 t.hd i.o (by omega) hinc
         simp [o18,o17,o15] at h7
         simp only [TD,zuc7] at h7
         simp [h1,h2,e2,h3,h4,h5,c1,c3,ws,o18,o17,o15,wp,h7,h8,h9,h10,← List.map_take,TDc_s16r,TDc_t16]
         exact (zuc7 R).symm
        ·by_cases o16 : i.op = 16
         ·have h8:=run203 t.hd i.o (by omega) hinc
          simp [o18,o17,o15,o16] at h7
          simp [h1,h2,e2,h3,h4,h5,c1,c3,ws,o18,o17,o15,o16,wp,h7,h8]
         ·by_cases o21 : i.op = 21
          ·simp [o18,o17,o15,o16,o21] at h7
           simp [h1,h2,e2,h3,h4,h5,c1,c3,ws,o18,o17,o15,o16,o21,wp,wc,h7]
          ·simp [o18,o17,o15,o16,o21] at h7
           simp [h1,h2,e2,h3,h4,h5,c1,c3,ws,o18,o17,o15,o16,o21,wp,h7]
     | some a =>
      rw [c5] at h5 h7
      simp only at h5 h7
      obtain ⟨d1,d2,-⟩:=dfn_lt c5
      obtain ⟨k,hk,k1,k2,k3,k4⟩:=rg8 ⟨d1,d2⟩
      subst hk
      by_cases o18 : i.op = 18
      ·have h6:=run201 (setR { t with st:=t.st + 1 } k v) i.n (by simp [setR]; omega) hinc h0 (by simp [setR]; omega)
       simp only [o18,if_true] at h7
       simp [setR] at h6 h7
       simp [h1,h2,e2,h3,h4,h5,h6,h7,c1,c3,o18,ws,TDc_sr,k1,k2,k3,k4]
      ·by_cases o17 : i.op = 17
       ·by_cases v0 : v = 0
        ·simp [o18,o17,v0,setR] at h7
         subst v0
         simp [h1,h2,e2,h3,h4,h5,c1,c3,ws,o18,o17,wp,h7,TDc_sr,k1,k2,k3,k4]
        ·obtain ⟨w,A,h8,h9,h10,h11⟩:=run202 t.hd i.o (by omega) hinc
         simp [o18,o17,v0,setR] at h7
         simp only [TD,zuc7] at h7
         simp [h1,h2,e2,h3,h4,h5,c1,c3,ws,o18,o17,v0,wp,h7,h8,h9,h10,← List.map_take,TDc_s16r,TDc_t16,TDc_sr,k1,k2,k3,k4]
         exact (zuc7 R).symm
       ·by_cases o15 : i.op = 15
        ·obtain ⟨w,A,h8,h9,h10,h11⟩:=run202 t.hd i.o (by omega) hinc
         simp [o18,o17,o15,setR] at h7
         simp only [TD,zuc7] at h7
         simp [h1,h2,e2,h3,h4,h5,c1,c3,ws,o18,o17,o15,wp,h7,h8,h9,h10,← List.map_take,TDc_s16r,TDc_t16,TDc_sr,k1,k2,k3,k4]
         exact (zuc7 R).symm
        ·by_cases o16 : i.op = 16
         ·have h8:=run203 t.hd i.o (by omega) hinc
          simp [o18,o17,o15,o16,setR] at h7
          simp [h1,h2,e2,h3,h4,h5,c1,c3,ws,o18,o17,o15,o16,wp,h7,h8,TDc_sr,k1,k2,k3,k4]
         ·by_cases o21 : i.op = 21
          ·simp [o18,o17,o15,o16,o21,setR] at h7
           simp [h1,h2,e2,h3,h4,h5,c1,c3,ws,o18,o17,o15,o16,o21,wp,wc,h7,TDc_sr,k1,k2,k3,k4]
          ·simp [o18,o17,o15,o16,o21,setR] at h7
           simp [h1,h2,e2,h3,h4,h5,c1,c3,ws,o18,o17,o15,o16,o21,wp,h7,TDc_sr,k1,k2,k3,k4]
   ·simp [h1,h3,c1,c3]
 ·simp [h1,c1]
end Go.Am.E

set_option maxRecDepth 10000
set_option maxHeartbeats 8000000
namespace Go.Am.E
open Go.Proofs Go.Ex Go.Rc
theorem run198 (l : List Int) (hl : l.length < 10000000000) : K 198 [.dat (Ns l)] [] = some (.rsl ((0,0),0,0) 0 1 0 l.length,[aI 0 l]):=by
 have h : 8 * (l.length : Int) ≤ 1099511627776:=by omega
 have h2 : (l.length : Int) ≤ 1099511627776:=by omega
 refine ce rfl ?_
 simp [h,h2]
abbrev ownC (q : List Int) : Cell:=.own true false 1 (q.map N)
abbrev fmQ (qs : List (List Int)) (k : Nat) : TObj:=.fam 0 k false ((qs.map ownC).take k ++ List.replicate (qs.length - k) (.d []))
structure Mb (m : Me) : Prop where
 va : m.va.length < 1000000000
 ow : m.ow.length < 1000000000
 qu : m.qu.length < 1000000000
 qs : ∀ q ∈ m.qu,q.length < 400000000
 sg : m.sg.length < 400000000
abbrev nil4 : TObj:=.plain (.box [.nils,.nils,.nils,.nils])
abbrev X254 (m : Me) (k : Nat) : zta7:=[((3,0),nil4),((4,0),.plain (.box [.rsl ((4,1),0,0) 0 1 0 m.va.length,.rsl ((4,2),0,0) 0 1 0 m.ow.length,.rsl ((4,3),0,0) 0 1 0 m.qu.length,.rsl ((4,4),0,0) 0 1 0 m.sg.length])),
 ((4,1),aI 0 m.va),((4,2),aI 0 m.ow),((4,3),fmQ m.qu k),((4,4),aI 0 m.sg)]
abbrev E254 (m : Me) (k : Nat) : Env:=[(2,.ref ((3,0),0,0) 0),(3,.ref ((4,0),0,0) 0),(21,.dat (.sl (m.qu.map Ns))),(22,.dat (N m.qu.length)),(23,.dat (N k))]
abbrev MV (m : Me) : AVal:=.agg [.rsl ((0,0),0,0) 0 1 0 m.va.length,.rsl ((0,1),0,0) 0 1 0 m.ow.length,.rsl ((0,2),0,0) 0 1 0 m.qu.length,.rsl ((0,3),0,0) 0 1 0 m.sg.length]
abbrev MO (m : Me) : List TObj:=[aI 0 m.va,aI 0 m.ow,.fam 0 m.qu.length false (m.qu.map ownC),aI 0 m.sg]
theorem fm_step {qs : List (List Int)} {i : Nat} {q : List Int} (h : qs[i]? = some q) : ((qs.map ownC).take i ++ List.replicate (qs.length - i) (Cell.d [])).set i (.own true false 1 (q.map N)) = (qs.map ownC).take (i + 1) ++ List.replicate (qs.length - (i + 1)) (Cell.d []):=by
 have hi:=(List.getElem?_eq_some_iff.1 h).1
 have e : ((qs.map ownC).take i).length = i:=by simp; omega
 rw [List.set_append,if_neg (by omega),e,Nat.sub_self,zhe7 (l:=qs.map ownC) (x:=ownC q) (by rw [List.getElem?_map,h]; rfl),show qs.length - i = (qs.length - (i + 1)) + 1 by omega,List.replicate_succ]
 simp
theorem fm_get {qs : List (List Int)} {i : Nat} (h : i < qs.length) : ((qs.map ownC).take i ++ List.replicate (qs.length - i) (Cell.d []))[i]? = some (.d []):=by
 have e : ((qs.map ownC).take i).length = i:=by simp; omega
 rw [List.getElem?_append_right (by omega),e,Nat.sub_self,List.getElem?_replicate,if_pos (by omega)]
theorem run126 (m : Me) (h : Mb m) : K 126 [.dat (MD m)] [] = some (MV m,MO m):=by
 obtain ⟨h1,h2,h3,h4,h5⟩:=h
 have g1:=run198 m.va (by omega)
 have g2:=run198 m.ow (by omega)
 have g3:=run198 m.sg (by omega)
 have r1 : 24 * (m.qu.length : Int) ≤ 1099511627776:=by omega
 have r2 : (m.qu.length : Int) ≤ 1099511627776:=by omega
 refine ce rfl ?_
 simp [g1,g2,g3,r1,r2]
 simp only [zaa7]
 refine (zjb7 (live:=[2,3,21,22,23]) (drop:=[2,3,21]) m.qu (by omega) (fun k => ⟨E254 m k,X254 m k⟩) (fun _ q => q.1 = .exit 0 ∧ hd [2,3] [] q.2 = some ⟨[(2,.ref ((3,0),0,0) 0),(3,.ref ((4,0),0,0) 0)],X254 m m.qu.length⟩)
  (fun i y s d1 d2 d3 ix hs => ?_) (fun s hs => ?_) _ (by simp)).mono ?_
 ·have g4:=run198 y (by have:=h4 y (List.mem_of_getElem? d1); omega)
  have hi : i < m.qu.length:=by omega
  have f1:=fm_get hi
  have f2:=fm_step d1
  simp [hs,d1,d2,d3,ix,g4,f1,f2]
 ·simp [hs]
 ·rintro ⟨y,s⟩ ⟨rfl,hq⟩
  simp [hq]
end Go.Am.E

set_option maxRecDepth 10000
set_option maxHeartbeats 8000000
namespace Go.Am.E
open Go.Proofs Go.Ex Go.Rc
abbrev mbox (m : Me) : TObj:=.plain (.box [.dat (Ns m.va),.dat (Ns m.ow),.dat (.sl (m.qu.map Ns)),.dat (Ns m.sg)])
theorem loop229_0 (m : Me) (hl : m.va.length < 100000000000) (s : St) (hs : hd [1,35,36,37] [] s = some ⟨[(1,.ref ((2,0),0,0) 0),(35,.dat (Ns m.va)),(36,.dat (N m.va.length)),(37,.dat (N 0))],[((2,0),mbox m)]⟩) :
  Ev (zga7 (exec K l229_0) s) (oQ (fun q => q.1 = .exit 0 ∧ hd [1] [] q.2 = some ⟨[(1,.ref ((2,0),0,0) 0)],[((2,0),mbox m)]⟩) (fun _ q => q.1 = .ret ∧ endK [.t 2] false 0 q = some (.dat (.bool false),[])) (if m.va.all okV = true then none else some ())):=by
 rw [← zef7 okV m.va 0]
 refine znb7 (live:=[1,35,36,37]) (drop:=[]) m.va _ (by omega) (fun k => ⟨[(1,.ref ((2,0),0,0) 0),(35,.dat (Ns m.va)),(36,.dat (N m.va.length)),(37,.dat (N k))],[((2,0),mbox m)]⟩) _ _
  (fun i y s h1 h2 h3 ix hs => ?_) (fun s hs => ?_) s hs
 ·by_cases c1 : y < -2147483648
  ·have c : okV y = false:=by simp [okV]; omega
   simp [hs,h1,h2,h3,ix,c1,c]
  ·by_cases c2 : 2147483647 < y
   ·have c : okV y = false:=by simp [okV]; omega
    simp [hs,h1,h2,h3,ix,c1,c2,c]
   ·have c : okV y = true:=by simp [okV]; omega
    simp [hs,h1,h2,h3,ix,c1,c2,c]
 ·simp [hs]
def okO (o : Int) : Bool:=decide (-1 ≤ o)
theorem loop229_1 (m : Me) (hl : m.ow.length < 100000000000) (s : St) (hs : hd [1,49,50,51] [] s = some ⟨[(1,.ref ((2,0),0,0) 0),(49,.dat (Ns m.ow)),(50,.dat (N m.ow.length)),(51,.dat (N 0))],[((2,0),mbox m)]⟩) :
  Ev (zga7 (exec K l229_1) s) (oQ (fun q => q.1 = .exit 2 ∧ hd [1] [] q.2 = some ⟨[(1,.ref ((2,0),0,0) 0)],[((2,0),mbox m)]⟩) (fun _ q => q.1 = .ret ∧ endK [.t 2] false 0 q = some (.dat (.bool false),[])) (if m.ow.all okO = true then none else some ())):=by
 rw [← zef7 okO m.ow 0]
 refine znb7 (live:=[1,49,50,51]) (drop:=[]) m.ow _ (by omega) (fun k => ⟨[(1,.ref ((2,0),0,0) 0),(49,.dat (Ns m.ow)),(50,.dat (N m.ow.length)),(51,.dat (N k))],[((2,0),mbox m)]⟩) _ _
  (fun i y s h1 h2 h3 ix hs => ?_) (fun s hs => ?_) s hs
 ·by_cases c1 : y < -1
  ·have c : okO y = false:=by simp [okO]; omega
   simp [hs,h1,h2,h3,ix,c1,c]
  ·have c : okO y = true:=by simp [okO]; omega
   simp [hs,h1,h2,h3,ix,c1,c]
 ·simp [hs]
def allM (m : Me) (k : Nat) : List Int:=m.sg ++ (m.qu.take k).flatten
theorem allM_len (m : Me) (h : Mb m) (h4 : m.qu.length ≤ 4) (k : Nat) : (allM m k).length ≤ 5000000000:=by
 have : ∀ l : List (List Int),(∀ q ∈ l,q.length < 1000000000) → l.flatten.length ≤ l.length * 1000000000:=by
  intro l
  induction l with
  | nil => intro _; simp
  | cons a r ih =>
   intro hl
   have h1:=hl a (by simp)
   have h2:=ih fun q hq => hl q (by simp [hq])
   simp only [List.flatten_cons,List.length_append,List.length_cons]
   omega
 have h1:=this (m.qu.take k) fun q hq => by have:=h.qs q (List.mem_of_mem_take hq); omega
 have h2:=h.sg
 have h3 : (m.qu.take k).length ≤ 4:=by simp; omega
 unfold allM
 rw [List.length_append]
 omega
def verM (m : Me) (k : Nat) : Nat:=((m.qu.take k).filter fun q => !q.isEmpty).length
abbrev S257 (m : Me) (k : Nat) : zta7:=[((8,0),aI (verM m k) (allM m k))]
theorem loop229_2 (m : Me) (h : Mb m) (h4 : m.qu.length ≤ 4) (s : St) (hs : hd [7,62,63,64] [7,62] s = some ⟨[(7,.rsl ((8,0),0,0) 0 1 0 m.sg.length),(62,.dat (.sl (m.qu.map Ns))),(63,.dat (N m.qu.length)),(64,.dat (N 0))],[((8,0),aI 0 m.sg)]⟩) :
  Ev (zga7 (exec K l229_2) s) fun q => q.1 = .exit 4 ∧ hd [7] [] q.2 = some ⟨[(7,.rsl ((8,0),0,0) (verM m m.qu.length) 1 0 (allM m m.qu.length).length)],S257 m m.qu.length⟩:=by
 refine zjb7 (live:=[7,62,63,64]) (drop:=[7,62]) m.qu (by have:=h.qu; omega) (fun k => ⟨[(7,.rsl ((8,0),0,0) (verM m k) 1 0 (allM m k).length),(62,.dat (.sl (m.qu.map Ns))),(63,.dat (N m.qu.length)),(64,.dat (N k))],S257 m k⟩)
  (fun _ q => q.1 = .exit 4 ∧ hd [7] [] q.2 = some ⟨[(7,.rsl ((8,0),0,0) (verM m m.qu.length) 1 0 (allM m m.qu.length).length)],S257 m m.qu.length⟩)
  (fun i y s h1 h2 h3 ix hs => ?_) (fun s hs => ?_) s (by rw [hs]; simp [allM,verM])
 ·have e : allM m (i + 1) = allM m i ++ y:=by unfold allM; rw [zhe7 h1]; simp
  have hb:=allM_len m h h4 i
  have hy:=h.qs y (List.mem_of_getElem? h1)
  have r1 : ((allM m i).length + y.length) * 9 ≤ 1099511627776:=by omega
  rcases y with _ | ⟨a,y⟩
  ·have ev : verM m (i + 1) = verM m i:=by unfold verM; rw [zhe7 h1]; simp
   rw [List.append_nil] at e
   have r2 : (allM m i).length * 9 ≤ 1099511627776:=by omega
   simp [hs,h1,h2,h3,ix,e,ev,r2]
  ·have ev : verM m (i + 1) = verM m i + 1:=by unfold verM; rw [zhe7 h1]; simp
   rw [List.length_cons] at r1
   simp [hs,h1,h2,h3,ix,e,ev,r1]
 ·simp [hs]
def dstF (L : List Int) (i : Nat) (n : Int) : Option Unit:=if 0 ≤ n ∧ n ∉ L.take i then none else some ()
theorem dst_scan (L : List Int) : ∀ (r pre : List Int),L = pre ++ r → scan (dstF L) r pre.length = if (r.all fun n => decide (0 ≤ n)) = true ∧ r.Nodup ∧ ∀ n ∈ r,n ∉ pre then none else some ()
 | [],pre,_ => by simp [scan]
 | n :: r,pre,h => by
  have ih:=dst_scan L r (pre ++ [n]) (by rw [h]; simp)
  have e : L.take pre.length = pre:=by rw [h]; simp
  have e1 : (pre ++ [n]).length = pre.length + 1:=by simp
  rw [e1] at ih
  by_cases c1 : 0 ≤ n ∧ n ∉ pre
  ·have e2 : dstF L pre.length n = none:=by simp only [dstF,e,c1,not_false_eq_true,and_self,if_true]
   simp only [scan,e2,ih]
   congr 1
   rw [eq_iff_iff]
   simp only [List.all_cons,Bool.and_eq_true,decide_eq_true_eq,List.nodup_cons,List.mem_append,List.mem_cons,List.not_mem_nil,or_false,not_or,c1,true_and]
   constructor
   ·rintro ⟨a,b,c⟩
    refine ⟨a,⟨fun hn => (c n hn).2 rfl,b⟩,fun x hx => ?_⟩
    rcases hx with rfl | hx
    ·exact c1.2
    ·exact (c x hx).1
   ·rintro ⟨a,⟨b,b'⟩,c⟩
    exact ⟨a,b',fun x hx => ⟨c x (.inr hx),fun hx' => b (hx' ▸ hx)⟩⟩
  ·have e2 : dstF L pre.length n = some ():=by simp only [dstF,e,c1,if_false]
   simp only [scan,e2]
   rw [if_neg]
   rintro ⟨a,b,c⟩
   simp only [List.all_cons,Bool.and_eq_true,decide_eq_true_eq] at a
   exact c1 ⟨a.1,c n (by simp)⟩
theorem loop229_3 (L : List Int) (v : Nat) (hl : L.length < 10000000000) (s : St) (hs : hd [7,72,73,74] [] s = some ⟨[(7,.rsl ((8,0),0,0) v 1 0 L.length),(72,.rsl ((8,0),0,0) v 1 0 L.length),(73,.dat (N L.length)),(74,.dat (N 0))],[((8,0),aI v L)]⟩) :
  Ev (zga7 (exec K l229_3) s) (oQ (fun q => q.1 = .exit 6 ∧ ∃ os,hd [] [] q.2 = some ⟨[],os⟩) (fun _ q => q.1 = .ret ∧ endK [.t 2] false 0 q = some (.dat (.bool false),[])) (scan (dstF L) L 0)):=by
 refine znb7 (live:=[7,72,73,74]) (drop:=[]) L (dstF L) (by omega) (fun k => ⟨[(7,.rsl ((8,0),0,0) v 1 0 L.length),(72,.rsl ((8,0),0,0) v 1 0 L.length),(73,.dat (N L.length)),(74,.dat (N k))],[((8,0),aI v L)]⟩) _ _
  (fun i y s h1 h2 h3 ix hs => ?_) (fun s hs => ?_) s hs
 ·have h4:=run28 (L.take i) y (by simp; omega)
  simp only [Ns,List.map_take] at h4
  have hi : i ≤ L.length:=by omega
  have hi2 : (i : Int) ≤ L.length:=by omega
  by_cases c1 : y < 0
  ·have c : dstF L i y = some ():=by simp only [dstF]; rw [if_neg]; omega
   simp [hs,h1,h2,h3,ix,c1,c]
  ·by_cases c2 : y ∈ L.take i
   ·have c : dstF L i y = some ():=by simp only [dstF]; rw [if_neg]; simp [c2]
    simp [c2] at h4
    simp [hs,h1,h2,h3,ix,c1,c,h4,hi,hi2]
   ·have c : dstF L i y = none:=by simp only [dstF]; rw [if_pos ⟨by omega,c2⟩]
    simp [c2] at h4
    simp [hs,h1,h2,h3,ix,c1,c,h4,hi,hi2]
 ·simp [hs]
def dstB (L : List Int) : Bool:=(L.all fun n => decide (0 ≤ n)) && decide L.Nodup
theorem frmM_eq (m : Me) : frmM m = (decide (m.va.length ≤ 8 ∧ m.ow.length ≤ 4 ∧ m.qu.length ≤ 4) && incr m.sg && m.va.all okV && m.ow.all okO && dstB (allM m m.qu.length)):=by
 unfold frmM allM dstB
 rw [List.take_length]
 simp only [Bool.and_assoc]
 rfl
theorem dstB_scan (L : List Int) : scan (dstF L) L 0 = if dstB L = true then none else some ():=by
 have e:=dst_scan L L [] rfl
 simp only [List.length_nil,List.not_mem_nil,not_false_eq_true,implies_true,and_true] at e
 rw [e,dstB]
 congr 1
 rw [eq_iff_iff,Bool.and_eq_true,decide_eq_true_eq]
theorem run229 (m : Me) (h : Mb m) : K 229 [.dat (MD m)] [] = some (.dat (.bool (frmM m)),[]):=by
 have h1:=run266 m.sg (by have:=h.sg; omega)
 have h2:=run198 m.sg (by have:=h.sg; omega)
 have hva:=h.va
 have how:=h.ow
 rw [frmM_eq]
 refine ce rfl ?_
 by_cases c1 : (8 : Int) < m.va.length
 ·simp [c1,show ¬ (m.va.length ≤ 8) by omega]
 by_cases c2 : (4 : Int) < m.ow.length
 ·simp [c1,c2,show ¬ (m.ow.length ≤ 4) by omega]
 by_cases c3 : (4 : Int) < m.qu.length
 ·simp [c1,c2,c3,show ¬ (m.qu.length ≤ 4) by omega]
 rw [show decide (m.va.length ≤ 8 ∧ m.ow.length ≤ 4 ∧ m.qu.length ≤ 4) = true by simp; omega,Bool.true_and]
 cases c4 : incr m.sg
 ·rw [c4] at h1
  simp [c1,c2,c3,h1]
 rw [c4] at h1
 rw [Bool.true_and]
 simp [c1,c2,c3,h1]
 simp only [zaa7]
 refine (loop229_0 m (by omega) _ (by simp [c1,c2,c3,h1])).mono ?_
 rintro ⟨y,s⟩ hq
 cases c5 : m.va.all okV <;> rw [c5] at hq
 ·simp only [Bool.false_eq_true,if_false,oQ_s] at hq
  obtain ⟨rfl,hq⟩:=hq
  simp [hq]
 simp only [if_true,oQ_n] at hq
 obtain ⟨rfl,hq⟩:=hq
 simp [hq]
 simp only [zaa7]
 refine (loop229_1 m (by omega) _ (by simp [hq])).mono ?_
 rintro ⟨y,s⟩ hq
 cases c6 : m.ow.all okO <;> rw [c6] at hq
 ·simp only [Bool.false_eq_true,if_false,oQ_s] at hq
  obtain ⟨rfl,hq⟩:=hq
  simp [hq]
 simp only [if_true,oQ_n] at hq
 obtain ⟨rfl,hq⟩:=hq
 simp [hq,h2]
 simp only [zaa7]
 refine (loop229_2 m h (by omega) _ (by simp [hq,h2])).mono ?_
 rintro ⟨y,s⟩ ⟨rfl,hq⟩
 simp [hq]
 simp only [zaa7]
 have hL:=allM_len m h (by omega) m.qu.length
 refine (loop229_3 (allM m m.qu.length) (verM m m.qu.length) (by omega) _ (by simp [hq])).mono ?_
 rintro ⟨y,s⟩ hq
 rw [dstB_scan] at hq
 cases c7 : dstB (allM m m.qu.length) <;> rw [c7] at hq
 ·simp only [Bool.false_eq_true,if_false,oQ_s] at hq
  obtain ⟨rfl,hq⟩:=hq
  simp [hq]
 ·simp only [if_true,oQ_n] at hq
  obtain ⟨rfl,os,hq⟩:=hq
  simp [hq]
end Go.Am.E

set_option maxRecDepth 10000
set_option maxHeartbeats 8000000
namespace Go.Am.E
open Go.Proofs Go.Ex Go.Rc
theorem run233 (m : Me) (h : Mb m) (i : Int) (n : Nat) : K 233 [.dat (MD m),.dat (N i),.dat (N n)] [] = some (.dat (N (inE m i n)),[]):=by
 have h1:=run229 m h
 refine ce rfl ?_
 unfold inE
 cases c1 : frmM m <;> rw [c1] at h1
 ·simp [h1]
 ·by_cases c2 : i < 0
  ·simp [h1,c2]
  ·by_cases c3 : (n : Int) ≤ i <;> simp [h1,c2,c3]
theorem inE_ok {m : Me} {i : Int} {n : Nat} (h : inE m i n = 0) : frmM m = true ∧ 0 ≤ i ∧ i < n:=by
 unfold inE at h
 split at h
 ·cases h
 ·split at h
  ·cases h
  ·exact ⟨by simpa using ‹¬ frmM m = false›,by omega,by omega⟩
theorem geti_get {l : List Int} {i : Int} (h0 : 0 ≤ i) (h1 : i < l.length) : ∃ k : Nat,i = k ∧ k < l.length ∧ (k : Int) < l.length ∧ l[k]? = some (geti l i) ∧ ∀ h : k < l.length,l[k] = geti l i:=by
 obtain ⟨a,a1,a2⟩:=zib7 l (i:=i.toNat) (by omega)
 have : geti l i = a:=by unfold geti; rw [a1]; rfl
 rw [this]
 exact ⟨i.toNat,by omega,by omega,by omega,a1,a2⟩
def redP (m : Me) (x : Int) : AVal:=if inE m x m.va.length = 0 then .tup [.dat (N (geti m.va x)),.dat (N 0)] else .tup [.dat (N 0),.dat (N (inE m x m.va.length))]
theorem run171 (m : Me) (h : Mb m) (x : Int) : K 171 [.dat (MD m),.dat (N x)] [] = some (redP m x,[]):=by
 have h1:=run233 m h x m.va.length
 refine ce rfl ?_
 unfold redP
 rcases Classical.propComplete (inE m x m.va.length = 0) with c1 | c1
 ·obtain ⟨-,g1,g2⟩:=inE_ok (by rw [c1]; trivial : inE m x m.va.length = 0)
  obtain ⟨k,hk,k1,k2,k3,k4⟩:=geti_get g1 g2
  generalize geti m.va x = v at *
  subst hk
  simp [h1,c1,k1,k2,k3,k4]
 ·simp [h1,c1]
theorem run173 (m : Me) (h : Mb m) (x : Int) : K 173 [.dat (MD m),.dat (N x)] [] = some (.dat (.bool (freM m x)),[]):=by
 have h1:=run233 m h x m.ow.length
 refine ce rfl ?_
 unfold freM
 rcases Classical.propComplete (inE m x m.ow.length = 0) with c1 | c1
 ·obtain ⟨-,g1,g2⟩:=inE_ok (by rw [c1]; trivial : inE m x m.ow.length = 0)
  obtain ⟨k,hk,k1,k2,k3,k4⟩:=geti_get g1 g2
  generalize geti m.ow x = v at *
  subst hk
  by_cases c2 : v = -1 <;> simp [h1,c1,k1,k2,k3,k4,c2]
 ·simp [h1,c1]
theorem run165 (p : Pg) (hf : Fit p) (m : Me) (h : Mb m) : K 165 [.dat (PD p),.dat (MD m)] [] = some (.dat (.bool (valM p m)),[]):=by
 have h1:=run164 p hf
 have h2:=run229 m h
 refine ce rfl ?_
 unfold valM
 by_cases c1 : chP p = 0
 ·simp only [c1,decide_true] at h1
  cases c2 : frmM m <;> rw [c2] at h2
  ·simp [h1,h2,c1]
  ·have e1 : ((m.va.length : Int) = p.vs.length) = (m.va.length = p.vs.length):=by rw [eq_iff_iff]; omega
   by_cases c3 : m.va.length = p.vs.length <;> by_cases c4 : m.ow.length = p.ms.length <;> by_cases c5 : m.qu.length = p.cs.length <;> simp [h1,h2,c1,c3,c4,c5]
 ·simp only [c1,decide_false] at h1
  simp [h1,c1]
theorem run239 (m : Me) (h : Mb m) (id : Int) : K 239 [.dat (MD m),.dat (N id)] [] = some (.dat (.bool (m.qu.any (·.contains id) || m.sg.contains id)),[]):=by
 have h1:=run240 m.sg id (by have:=h.sg; omega)
 refine ce rfl ?_
 generalize hA : m.qu.any (·.contains id) = A
 generalize m.sg.contains id = B at *
 simp
 simp only [zaa7]
 refine (znb7 (live:=[1,2,8,9,10]) (drop:=[]) m.qu (fun _ q => if (!q.contains id) = true then none else some ()) (by have:=h.qu; omega) (fun k => ⟨[(1,.dat (N id)),(2,.ref ((3,0),0,0) 0),(8,.dat (.sl (m.qu.map Ns))),(9,.dat (N m.qu.length)),(10,.dat (N k))],[((3,0),mbox m)]⟩)
  (fun q => q.1 = .exit 0 ∧ hd [1,2] [] q.2 = some ⟨[(1,.dat (N id)),(2,.ref ((3,0),0,0) 0)],[((3,0),mbox m)]⟩) (fun i q => q.1 = .ret ∧ endK [.t 4] false 0 q = some (.dat (.bool true),[]))
  (fun i y s g1 g2 g3 ix hs => ?_) (fun s hs => ?_) _ (by simp)).mono ?_
 ·have h4:=run28 y id (by have:=h.qs y (List.mem_of_getElem? g1); omega)
  cases c : y.contains id <;> rw [c] at h4 <;> simp [hs,g1,g2,g3,ix,h4]
 ·simp [hs]
 ·rintro ⟨y,s⟩ hq
  rw [zef7 (fun q : List Int => !q.contains id)] at hq
  cases A
  ·rw [if_pos (by simpa using hA)] at hq
   obtain ⟨rfl,hq⟩:=hq
   simp [hq,h1]
  ·rw [if_neg (by simpa using hA)] at hq
   obtain ⟨rfl,hq⟩:=hq
   simp [hq]
abbrev MD0 : Dat:=.agg [.sl [],.sl [],.sl [],.sl []]
abbrev MV0 : AVal:=.agg [.nils,.nils,.nils,.nils]
theorem run183e (m : Me) (h : Mb m) (x v : Int) (he : wrE m x v ≠ 0) : K 183 [.dat (MD m),.dat (N x),.dat (N v)] [] = some (.tup [MV0,.dat (N (wrE m x v))],[]):=by
 have h1:=run233 m h x m.va.length
 refine ce rfl ?_
 unfold wrE at he ⊢
 rcases Classical.propComplete (inE m x m.va.length = 0) with c1 | c1
 ·cases c2 : okV v
  ·by_cases c3 : v < -2147483648
   ·simp [h1,c1,c3]
   ·have c4 : 2147483647 < v:=by simp [okV] at c2; omega
    simp [h1,c1,c3,c4]
  ·simp [c1,c2] at he
 ·simp [h1,c1]
theorem run183 (m : Me) (h : Mb m) (x v : Int) (he : wrE m x v = 0) : K 183 [.dat (MD m),.dat (N x),.dat (N v)] [] = some (.tup [MV (wrM m x v),.dat (N 0)],MO (wrM m x v)):=by
 have h1:=run233 m h x m.va.length
 have h2:=run126 m h
 refine ce rfl ?_
 unfold wrE at he
 split at he
 ·exact absurd he ‹_›
 ·rename_i c1
  split at he
  ·cases he
  ·rename_i c2
   have c1 : inE m x m.va.length = 0:=by omega
   have c2 : okV v = true:=by simpa using c2
   obtain ⟨-,g1,g2⟩:=inE_ok c1
   obtain ⟨k,hk,k1,k2,k3,k4⟩:=geti_get g1 g2
   have c3 : ¬ v < -2147483648:=by simp [okV] at c2; omega
   have c4 : ¬ 2147483647 < v:=by simp [okV] at c2; omega
   rw [c1] at h1
   subst hk
   unfold wrM
   simp [h1,h2,c3,c4,k1,k2,k3,k4]
end Go.Am.E

set_option maxRecDepth 10000
set_option maxHeartbeats 8000000
namespace Go.Am.E
open Go.Proofs Go.Ex Go.Rc
def memP (e : Int) (m : Me) : AVal:=if e = 0 then .tup [.dat (MD m),.dat (N 0)] else .tup [.dat MD0,.dat (N e)]
theorem kids (qs : List (List Int)) : (qs.map ownC).all Cell.fresh = true ∧ (qs.map ownC).map Cell.dat = qs.map Ns:=by
 constructor
 ·rw [List.all_eq_true]; intro c hc; obtain ⟨q,-,rfl⟩:=List.mem_map.1 hc; rfl
 ·rw [List.map_map]; rfl
theorem zac7 (qs : List (List Int)) : (qs.map ownC).all Cell.fresh = true:=(kids qs).1
theorem dat_own (qs : List (List Int)) : (qs.map ownC).map Cell.dat = qs.map Ns:=(kids qs).2
theorem rowsA_own (r : RId) (pv : Nat) : ∀ (qs : List (List Int)) (i k : Nat) (q : List Int),qs[k]? = some q → (rowsA r pv i (qs.map ownC))[k]? = some [.rsl (r,i + k + 1,0) pv 1 0 q.length]
 | a :: qs,i,0,q,h => by
  obtain rfl:=Option.some.inj h
  simp [rowsA,cellA]
 | a :: qs,i,k + 1,q,h => by
  have:=rowsA_own r pv qs (i + 1) k q h
  simp only [List.map_cons,rowsA,List.getElem?_cons_succ,this]
  rw [show i + 1 + k = i + (k + 1) by omega]
theorem rowsA_own' (r : RId) (pv : Nat) {qs : List (List Int)} {k : Nat} {q : List Int} (h : qs[k]? = some q) (hk : k < (rowsA r pv 0 (qs.map ownC)).length) : (rowsA r pv 0 (qs.map ownC))[k] = [.rsl (r,k + 1,0) pv 1 0 q.length]:=by
 have:=rowsA_own r pv qs 0 k q h
 rw [Nat.zero_add,List.getElem?_eq_getElem hk] at this
 exact Option.some.inj this
theorem fresh_set (qs : List (List Int)) (k : Nat) (L : List Dat) : ((qs.map ownC).set k (.own true false 1 L)).all Cell.fresh = true:=by
 rw [List.all_eq_true]
 intro c hc
 rcases List.mem_or_eq_of_mem_set hc with h | h
 ·exact List.all_eq_true.1 (zac7 qs) c h
 ·rw [h]; rfl
theorem zfe7 : (Cell.dat ∘ ownC) = Ns:=rfl
theorem run238 (m : Me) (h : Mb m) (i id fr to : Int) : K 238 [.dat (MD m),.dat (N i),.dat (N id),.dat (N fr),.dat (N to)] [] = some (memP (ownE m i id fr) (ownM m i to),[]):=by
 have h1:=run233 m h i m.ow.length
 have h2:=run126 m h
 refine ce rfl ?_
 unfold memP ownE ownM
 rcases Classical.propComplete (inE m i m.ow.length = 0) with c1 | c1
 ·obtain ⟨-,g1,g2⟩:=inE_ok (by rw [c1]; trivial : inE m i m.ow.length = 0)
  obtain ⟨k,hk,k1,k2,k3,k4⟩:=geti_get g1 g2
  generalize geti m.ow i = v at *
  subst hk
  by_cases c2 : id < 0
  ·simp [h1,c1,c2]
  ·by_cases c3 : v = fr
   ·subst c3
    simp [h1,h2,c1,c2,k1,k2,k3,k4,zac7,dat_own]
   ·simp [h1,c1,c2,c3,k1,k2,k3,k4]
 ·simp [h1,c1]
theorem run192 (m : Me) (h : Mb m) (i id : Int) : K 192 [.dat (MD m),.dat (N i),.dat (N id)] [] = some (memP (ownE m i id (-1)) (ownM m i id),[]):=by
 have h1:=run238 m h i id (-1) id
 refine ce rfl ?_
 unfold memP at *
 rcases Classical.propComplete (ownE m i id (-1) = 0) with c1 | c1 <;> simp [c1] at h1 <;> simp [h1,c1]
theorem run193 (m : Me) (h : Mb m) (i id : Int) : K 193 [.dat (MD m),.dat (N i),.dat (N id)] [] = some (memP (ownE m i id id) (ownM m i (-1)),[]):=by
 have h1:=run238 m h i id id (-1)
 refine ce rfl ?_
 unfold memP at *
 rcases Classical.propComplete (ownE m i id id = 0) with c1 | c1 <;> simp [c1] at h1 <;> simp [h1,c1]
theorem run194 (m : Me) (h : Mb m) (c id : Int) : K 194 [.dat (MD m),.dat (N c),.dat (N id)] [] = some (memP (enqE m c id) (enqM m c id),[]):=by
 have h1:=run233 m h c m.qu.length
 have h2:=run126 m h
 have h3:=run239 m h id
 refine ce rfl ?_
 unfold memP enqE enqM
 rcases Classical.propComplete (inE m c m.qu.length = 0) with c1 | c1
 ·obtain ⟨-,g1,g2⟩:=inE_ok (by rw [c1]; trivial : inE m c m.qu.length = 0)
  by_cases c2 : id < 0
  ·simp [h1,c1,c2]
  ·generalize (m.qu.any (·.contains id) || m.sg.contains id) = R at *
   cases R
   ·obtain ⟨q,q1,q2⟩:=zib7 m.qu (i:=c.toNat) (by omega)
    obtain ⟨k,rfl⟩ : ∃ k : Nat,c = k:=⟨c.toNat,by omega⟩
    have hq : getq m k = q:=by unfold getq; rw [q1]; rfl
    have k1 : k < m.qu.length:=by omega
    have hl:=h.qs q (List.mem_of_getElem? q1)
    have r : (q.length + 1) * 9 ≤ 1099511627776:=by omega
    have q1':=q1
    simp at q1 q2 q1'
    simp [h1,h2,h3,c1,c2,k1,g2,q1,q2,hq,r,rowsA_own' (29,2) m.qu.length q1',rowsA_own (29,2) m.qu.length m.qu 0 k q q1',kidO,fresh_set,zfe7]
    rw [Ns,List.map_append]
    rfl
   ·simp [h1,h3,c1,c2]
 ·simp [h1,c1]
end Go.Am.E

set_option maxRecDepth 10000
set_option maxHeartbeats 8000000
namespace Go.Am.E
open Go.Proofs Go.Ex Go.Rc
abbrev X331 (m : Me) (S : List Int) (v : Nat) (A : List Int) : zta7:=[((7,0),nil4),((11,0),.plain (.box [.rsl ((11,1),0,0) 0 1 0 m.va.length,.rsl ((11,2),0,0) 0 1 0 m.ow.length,.rsl ((11,3),0,0) 0 1 0 m.qu.length,.rsl ((11,4),0,0) v 1 0 S.length])),
 ((11,3),.fam 0 m.qu.length false (m.qu.map ownC)),((11,1),aI 0 m.va),((11,2),aI 0 m.ow),((11,4),aI v A)]
abbrev E331 (m : Me) (c n k : Nat) : Env:=[(1,.dat (N c)),(2,.dat (N n)),(6,.ref ((7,0),0,0) 0),(10,.ref ((11,0),0,0) 0),(39,.rsl ((11,3),c + 1,0) m.qu.length 1 0 n),(40,.dat (N n)),(41,.dat (N k))]
def wk (S : List Int) (l : List Int) : List Int:=l.foldl (fun s i => ins i s) S
def Q331 (m : Me) (c n : Nat) (S : List Int) (q : AEx × St) : Prop:=q.1 = .exit 0 ∧ ∃ (v : Nat) (A : List Int),A.take S.length = S ∧ S.length ≤ A.length ∧ hd [1,2,6,10] [] q.2 = some ⟨(E331 m c n 0).take 4,X331 m S v A⟩
theorem pw_incr : ∀ {l : List Int},l.Pairwise (· < ·) → incr l = true
 | [],_ => rfl
 | [a],_ => rfl
 | a :: b :: r,h => by
  have h':=List.pairwise_cons.1 h
  simp only [incr,Bool.and_eq_true,decide_eq_true_eq]
  exact ⟨h'.1 b (by simp),pw_incr h'.2⟩
theorem loop241 (m : Me) (c n : Nat) (q : List Int) (hq : m.qu[c]? = some q) (hn : n ≤ q.length) (hn2 : n < 1000000000) : ∀ (r k : Nat) (S : List Int) (v : Nat) (A : List Int) (s : St),k + r = n → S.length + r < 1000000000 → incr S = true → A.take S.length = S → S.length ≤ A.length → A.length < 1000000000000 →
  hd [1,2,6,10,39,40,41] [6,10,39] s = some ⟨E331 m c n k,X331 m S v A⟩ → Ev (zga7 (exec K l241_0) s) (Q331 m c n (wk S ((q.take n).drop k)))
 | 0,k,S,v,A,s,hk,hS,hi,hA,hA2,hA3,hs => by
  have e : (q.take n).drop k = []:=List.drop_of_length_le (by simp; omega)
  have h1 : ¬ ((k : Int) < n):=by omega
  apply zoc7
  simp [hs,h1,Q331,e,wk]
  exact ⟨v,A,hA,hA2,rfl,rfl⟩
 | r + 1,k,S,v,A,s,hk,hS,hi,hA,hA2,hA3,hs => by
  obtain ⟨y,y1,y2⟩:=zib7 q (i:=k) (by omega)
  have e0 : (q.take n)[k]? = some y:=by rw [List.getElem?_take,if_pos (by omega),y1]
  have e:=zec7 e0
  have h1 : (k : Int) < n:=by omega
  have ix : Ix k:=by unfold Ix; omega
  obtain ⟨w,B,b1,b2,b3,b4⟩:=run202 S y (by omega) hi
  have e2 : wk S ((q.take n).drop k) = wk (ins y S) ((q.take n).drop (k + 1)):=by rw [e]; rfl
  have hin:=ins_len y S
  have hi' : incr (ins y S) = true:=pw_incr (ins_pw y (incr_pw hi)).1
  have q3:=hq
  have k1:=(List.getElem?_eq_some_iff.1 hq).1
  have q4:=(List.getElem?_eq_some_iff.1 hq).2
  rw [e2]
  apply zoc7
  simp [hs,h1,ix,hq,q4,k1,y1,kidO,hA2,hA,← List.map_take,b1]
  exact loop241 m c n q hq hn hn2 r (k + 1) (ins y S) w B _ (by omega) (by omega) hi' b2 b3 b4 (by simp)
def wakP (e : Int) (m : Me) (n : Nat) : AVal:=if e = 0 then .tup [.dat (MD m),.dat (N n),.dat (N 0)] else .tup [.dat MD0,.dat (N 0),.dat (N e)]
theorem run241 (m : Me) (h : Mb m) (c n : Int) (hn : 0 ≤ n) (hb : m.sg.length + (getq m c).length < 1000000000) :
  K 241 [.dat (MD m),.dat (N c),.dat (N n)] [] = some (wakP (inE m c m.qu.length) (wakM m c (min n.toNat (getq m c).length)) (min n.toNat (getq m c).length),[]):=by
 have h1:=run233 m h c m.qu.length
 have h2:=run126 m h
 refine ce rfl ?_
 unfold wakP
 rcases Classical.propComplete (inE m c m.qu.length = 0) with c1 | c1
 ·obtain ⟨hfm,g1,g2⟩:=inE_ok (by rw [c1]; trivial : inE m c m.qu.length = 0)
  obtain ⟨q,q1,q2⟩:=zib7 m.qu (i:=c.toNat) (by omega)
  obtain ⟨k,rfl⟩ : ∃ k : Nat,c = k:=⟨c.toNat,by omega⟩
  have hq : getq m k = q:=by unfold getq; rw [q1]; rfl
  rw [hq] at hb
  have hi : incr m.sg = true:=by
   rw [frmM_eq] at hfm
   simp only [Bool.and_eq_true] at hfm
   exact hfm.1.1.1.2
  generalize hw : min n.toNat q.length = w
  have e : (if (q.length : Int) < n then (q.length : Int) else n) = w:=by split <;> omega
  have k1 : k < m.qu.length:=by omega
  have w1 : (w : Int) ≤ q.length:=by omega
  have hl:=h.qs q (List.mem_of_getElem? q1)
  have g5:=run198 (q.drop w) (by simp; omega)
  have q1':=q1
  simp at q1 q2 q1'
  have w2 : ((q.length : Int) - w).toNat = q.length - w:=by omega
  have w3 : q.length - w ≤ q.length - w:=Nat.le_refl _
  have w4 : w + (q.length - w) ≤ q.length:=by omega
  simp [Ns,List.map_drop] at g5
  have e5 : List.take (q.length - w) (List.drop w (q.map N)) = List.drop w (q.map N):=List.take_of_length_le (by simp)
  unfold wakM
  rw [hq]
  simp [h1,h2,c1,k1,g2,q1,q2,hq,rowsA_own' (25,2) m.qu.length q1',rowsA_own (25,2) m.qu.length m.qu 0 k q q1',kidO,e,w1,hw]
  simp only [zaa7]
  refine (loop241 m k w q q1' (by omega) (by omega) w 0 m.sg 0 m.sg _ (by omega) (by omega) hi (by simp) (by simp) (by have:=h.sg; omega) (by simp [h1,h2,c1,k1,g2,q1,q2,hq,rowsA_own' (25,2) m.qu.length q1',rowsA_own (25,2) m.qu.length m.qu 0 k q q1',kidO,e,w1])).mono ?_
  rintro ⟨y,s⟩ ⟨rfl,v,A,b1,b2,hs⟩
  simp only [List.drop_zero] at hs b1 b2
  simp [hs,k1,q1,q2,rowsA_own' (11,3) m.qu.length q1',rowsA_own (11,3) m.qu.length m.qu 0 k q q1',kidO,w1,w2,w4,g5,e5,fresh_set,zfe7,b1,b2,← List.map_take]
  simp [wk,Ns]
 ·simp [h1,c1]
theorem run196 (m : Me) (h : Mb m) (c : Int) (hb : m.sg.length + (getq m c).length < 1000000000) :
  K 196 [.dat (MD m),.dat (N c)] [] = some (wakP (inE m c m.qu.length) (wakM m c (min 1 (getq m c).length)) (min 1 (getq m c).length),[]):=by
 have h1:=run241 m h c 1 (by omega) hb
 refine ce rfl ?_
 simp only [Int.toNat_one] at h1
 unfold wakP at *
 rcases Classical.propComplete (inE m c m.qu.length = 0) with c1 | c1 <;> simp [c1] at h1 <;> simp [h1,c1]
def mxQ (qs : List (List Int)) : Nat:=qs.foldl (fun a q => max a q.length) 0
theorem mxQ_take {qs : List (List Int)} {i : Nat} {q : List Int} (h : qs[i]? = some q) : mxQ (qs.take (i + 1)) = max (mxQ (qs.take i)) q.length:=by
 unfold mxQ; rw [zhe7 h,List.foldl_append]; rfl
theorem mxQ_le : ∀ (qs : List (List Int)) (a : Nat),a ≤ qs.foldl (fun a q => max a q.length) a ∧ ∀ q ∈ qs,q.length ≤ qs.foldl (fun a q => max a q.length) a
 | [],a => ⟨Nat.le_refl _,by simp⟩
 | x :: r,a => by
  obtain ⟨h1,h2⟩:=mxQ_le r (max a x.length)
  refine ⟨by simp only [List.foldl_cons]; omega,fun q hq => ?_⟩
  simp only [List.foldl_cons]
  rcases List.mem_cons.1 hq with rfl | hq
  ·omega
  ·exact h2 q hq
theorem run197 (m : Me) (h : Mb m) (c : Int) (hb : m.sg.length + (getq m c).length < 1000000000) :
  K 197 [.dat (MD m),.dat (N c)] [] = some (wakP (inE m c m.qu.length) (wakM m c (getq m c).length) (getq m c).length,[]):=by
 have h1:=run241 m h c (mxQ m.qu) (by omega) hb
 have e : inE m c m.qu.length = 0 → min (mxQ m.qu) (getq m c).length = (getq m c).length:=by
  intro h0
  obtain ⟨-,g1,g2⟩:=inE_ok h0
  obtain ⟨q,q1,q2⟩:=zib7 m.qu (i:=c.toNat) (by omega)
  have hq : getq m c = q:=by unfold getq; rw [q1]; rfl
  have:=(mxQ_le m.qu 0).2 q (List.mem_of_getElem? q1)
  rw [hq]
  unfold mxQ
  omega
 refine ce rfl ?_
 simp
 simp only [zaa7]
 refine (zjb7 (live:=[1,2,4,7,11,12,13]) (drop:=[]) m.qu (by have:=h.qu; omega) (fun k => ⟨[(1,.dat (N c)),(2,.ref ((3,0),0,0) 0),(4,.ref ((5,0),0,0) 0),(7,.dat (N (mxQ (m.qu.take k)))),(11,.dat (.sl (m.qu.map Ns))),(12,.dat (N m.qu.length)),(13,.dat (N k))],[((3,0),mbox m),((5,0),nil4)]⟩)
  (fun _ q => q.1 = .exit 0 ∧ hd [1,2,4,7] [] q.2 = some ⟨[(1,.dat (N c)),(2,.ref ((3,0),0,0) 0),(4,.ref ((5,0),0,0) 0),(7,.dat (N (mxQ m.qu)))],[((3,0),mbox m),((5,0),nil4)]⟩)
  (fun i y s g1 g2 g3 ix hs => ?_) (fun s hs => ?_) _ (by simp [mxQ])).mono ?_
 ·have e2:=mxQ_take g1
  have e3 : (if mxQ (m.qu.take i) < y.length then (y.length : Int) else (mxQ (m.qu.take i) : Nat)) = (mxQ (m.qu.take (i + 1)) : Nat):=by rw [e2]; split <;> omega
  simp [hs,g1,g2,g3,ix,e3]
 ·simp [hs]
 ·rintro ⟨y,s⟩ ⟨rfl,hs⟩
  rw [Int.toNat_natCast] at h1
  unfold wakP at *
  rcases Classical.propComplete (inE m c m.qu.length = 0) with c1 | c1
  ·rw [e (by rw [c1]; trivial)] at h1
   simp [c1] at h1
   simp [hs,h1,c1]
  ·simp [c1] at h1
   simp [hs,h1,c1]
theorem run195 (m : Me) (h : Mb m) (id : Int) : K 195 [.dat (MD m),.dat (N id)] [] = some (memP (wakE m id) (wokM m id),[]):=by
 have h1:=run229 m h
 have h2:=run126 m h
 have h3:=run240 m.sg id (by have:=h.sg; omega)
 refine ce rfl ?_
 unfold memP wakE wokM
 cases c1 : frmM m <;> rw [c1] at h1
 ·simp [h1]
 ·have hi : incr m.sg = true:=by
   rw [frmM_eq] at c1
   simp only [Bool.and_eq_true] at c1
   exact c1.1.1.1.2
  have h4:=run203 m.sg id (by have:=h.sg; omega) hi
  cases c2 : m.sg.contains id <;> rw [c2] at h3
  ·simp [h1,h3]
  ·simp [h1,h2,h3,h4,zac7,dat_own]
end Go.Am.E
