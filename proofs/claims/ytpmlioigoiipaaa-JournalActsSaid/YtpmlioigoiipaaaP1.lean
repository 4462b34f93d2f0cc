/- Parts of the proofs of the journal's statements, joined: AmDefs AmComp AmRegion. -/
import Derived.Calls

/- The abstract machine: tree data, a store of owned boxes and arrays, and a deterministic evaluator over a compact form of a function's code. Definitions alone. -/
namespace Go.Am

theorem orMap {a b c d : Prop} (h : a ∨ b) (f : a → c) (g : b → d) : c ∨ d := by
  rcases h with h | h
  · exact .inl (f h)
  · exact .inr (g h)

/-! ## Data -/

inductive Dat where
  | int (k : IntKind) (n : Int)
  | bool (b : Bool)
  | str (s : List UInt8)
  | sl (l : List Dat)
  | agg (l : List Dat)
  deriving Inhabited

def Dat.cells : Dat → List Dat
  | .agg l => l
  | .int k n => [.int k n]
  | .bool b => [.bool b]
  | .str s => [.str s]
  | .sl l => [.sl l]

def Dat.isAgg : Dat → Bool
  | .agg _ => true
  | .int _ _ => false
  | .bool _ => false
  | .str _ => false
  | .sl _ => false

def Dat.width (d : Dat) : Nat := d.cells.length

abbrev Id := Nat × Nat

inductive AVal where
  | dat (d : Dat)
  | nils
  | emp (isNil : Bool)
  | nilp
  | ref (id : Id) (off : Nat)
  | eref (id : Id) (ver i off : Nat)
  | rsl (id : Id) (ver sz off len : Nat)
  | fp (cells : List Dat)
  | lits (l : List AVal)
  | agg (l : List AVal)
  | tup (l : List AVal)
  | fn (f : FuncId) (caps : List AVal)
  | undef
  deriving Inhabited

def AVal.cells : AVal → List AVal
  | .agg l => l
  | .dat d => d.cells.map .dat
  | .nils => [.nils]
  | .emp t => [.emp t]
  | .nilp => [.nilp]
  | .ref id off => [.ref id off]
  | .eref id ver i off => [.eref id ver i off]
  | .rsl id ver sz off len => [.rsl id ver sz off len]
  | .fp l => [.fp l]
  | .lits l => [.lits l]
  | .tup l => [.tup l]
  | .fn f l => [.fn f l]
  | .undef => [.undef]

/-- can lie in one cell -/
def AVal.leaf : AVal → Bool
  | .dat d => !d.isAgg
  | .agg _ => false
  | .tup _ => false
  | .undef => false
  | .nils => true
  | .emp _ => true
  | .nilp => true
  | .ref _ _ => true
  | .eref _ _ _ _ => true
  | .rsl _ _ _ _ _ => true
  | .fp _ => true
  | .lits _ => true
  | .fn _ _ => true

section
variable (d : Dat) (ds : List Dat) (l : List AVal) (id : Nat × Nat) (a b c e : Nat) (k : IntKind) (n : Int) (t : Bool) (s : List UInt8)
@[simp] theorem Dat.cells_agg : (Dat.agg ds).cells = ds := rfl
@[simp] theorem Dat.cells_int : (Dat.int k n).cells = [.int k n] := rfl
@[simp] theorem Dat.cells_bool : (Dat.bool t).cells = [.bool t] := rfl
@[simp] theorem Dat.cells_str : (Dat.str s).cells = [.str s] := rfl
@[simp] theorem Dat.cells_sl : (Dat.sl ds).cells = [.sl ds] := rfl
@[simp] theorem Dat.isAgg_agg : (Dat.agg ds).isAgg = true := rfl
@[simp] theorem Dat.isAgg_int : (Dat.int k n).isAgg = false := rfl
@[simp] theorem Dat.isAgg_bool : (Dat.bool t).isAgg = false := rfl
@[simp] theorem Dat.isAgg_str : (Dat.str s).isAgg = false := rfl
@[simp] theorem Dat.isAgg_sl : (Dat.sl ds).isAgg = false := rfl
@[simp] theorem AVal.cells_agg : (AVal.agg l).cells = l := rfl
@[simp] theorem AVal.leaf_agg : (AVal.agg l).leaf = false := rfl
@[simp] theorem AVal.cells_dat : (AVal.dat d).cells = d.cells.map .dat := rfl
@[simp] theorem AVal.leaf_dat : (AVal.dat d).leaf = (!d.isAgg) := rfl
@[simp] theorem AVal.cells_emp : (AVal.emp t).cells = [.emp t] := rfl
@[simp] theorem AVal.leaf_emp : (AVal.emp t).leaf = true := rfl
@[simp] theorem AVal.cells_nils : (AVal.nils).cells = [.nils] := rfl
@[simp] theorem AVal.leaf_nils : (AVal.nils).leaf = true := rfl
@[simp] theorem AVal.cells_nilp : (AVal.nilp).cells = [.nilp] := rfl
@[simp] theorem AVal.leaf_nilp : (AVal.nilp).leaf = true := rfl
@[simp] theorem AVal.cells_ref : (AVal.ref id a).cells = [.ref id a] := rfl
@[simp] theorem AVal.leaf_ref : (AVal.ref id a).leaf = true := rfl
@[simp] theorem AVal.cells_eref : (AVal.eref id a b c).cells = [.eref id a b c] := rfl
@[simp] theorem AVal.leaf_eref : (AVal.eref id a b c).leaf = true := rfl
@[simp] theorem AVal.cells_rsl : (AVal.rsl id a b c e).cells = [.rsl id a b c e] := rfl
@[simp] theorem AVal.leaf_rsl : (AVal.rsl id a b c e).leaf = true := rfl
@[simp] theorem AVal.cells_fp : (AVal.fp ds).cells = [.fp ds] := rfl
@[simp] theorem AVal.leaf_fp : (AVal.fp ds).leaf = true := rfl
@[simp] theorem AVal.cells_lits : (AVal.lits l).cells = [.lits l] := rfl
@[simp] theorem AVal.leaf_lits : (AVal.lits l).leaf = true := rfl
@[simp] theorem AVal.cells_tup : (AVal.tup l).cells = [.tup l] := rfl
@[simp] theorem AVal.leaf_tup : (AVal.tup l).leaf = false := rfl
@[simp] theorem AVal.cells_fn : (AVal.fn a l).cells = [.fn a l] := rfl
@[simp] theorem AVal.leaf_fn : (AVal.fn a l).leaf = true := rfl
@[simp] theorem AVal.cells_undef : (AVal.undef).cells = [.undef] := rfl
@[simp] theorem AVal.leaf_undef : (AVal.undef).leaf = false := rfl
end

inductive Obj where
  | box (cells : List AVal)
  | arr (sz ver : Nat) (fz : Bool) (elems : List Dat)
  | rarr (ver : Nat) (elems : List AVal)
  deriving Inhabited

abbrev Env := List (Nat × AVal)
abbrev Store := List (Id × Obj)

def gE : Env → Nat → AVal
  | [], _ => .undef
  | (t', v) :: r, t => if t' = t then v else gE r t

def gO : Store → Id → Option Obj
  | [], _ => none
  | (i', o) :: r, i => if i' = i then some o else gO r i

def pO : Store → Id → Obj → Store
  | [], i, o => [(i, o)]
  | (i', o') :: r, i, o => if i' = i then (i, o) :: r else (i', o') :: pO r i o

def pOs (s : Store) : List (Id × Obj) → Store
  | [] => s
  | (i, o) :: r => pOs (pO s i o) r

abbrev Look := Id → Option Obj

def updL (ρ : Look) : List (Id × Obj) → Look
  | [] => ρ
  | (i, o) :: r => updL (fun j => if i = j then some o else ρ j) r

/-! ## Reading a value as data -/

/-- the elements that a slice value has now -/
def elemsOf (ρ : Look) (sz : Nat) : AVal → Option (List Dat)
  | .dat (.sl l) => if l.all (fun d => d.width == sz) then some l else none
  | .nils => some []
  | .emp _ => some []
  | .rsl id ver sz' off len =>
    match ρ id with
    | some (.arr sz'' ver' _ es) => if ver = ver' ∧ sz = sz' ∧ sz' = sz'' ∧ off + len ≤ es.length then some ((es.drop off).take len) else none
    | _ => none
  | _ => none

/-- what is appended or copied: a slice's elements, a string's bytes -/
def srcOf (ρ : Look) (sz : Nat) : AVal → Option (List Dat)
  | .dat (.str s) => if sz = 1 then some (s.map fun b => .int .u8 b.toNat) else none
  | v => elemsOf ρ sz v

/-- a leaf (or a flat struct) as data, with the arrays that must be frozen for it -/
def decLeaf (ρ : Look) : AVal → Option (Dat × List Id)
  | .dat d => some (d, [])
  | .nils => some (.sl [], [])
  | .emp _ => some (.sl [], [])
  | .rsl id ver sz off len =>
    match ρ id with
    | some (.arr sz' ver' _ es) => if ver = ver' ∧ sz = sz' ∧ off + len ≤ es.length then some (.sl ((es.drop off).take len), [id]) else none
    | _ => none
  | _ => none

def decLeaves (ρ : Look) : List AVal → Option (List Dat × List Id)
  | [] => some ([], [])
  | v :: r =>
    match decLeaf ρ v, decLeaves ρ r with
    | some (d, f), some (ds, fs) => if d.isAgg then none else some (d :: ds, f ++ fs)
    | _, _ => none

def dec (ρ : Look) : AVal → Option (Dat × List Id)
  | .agg l => match decLeaves ρ l with
    | some (ds, fs) => some (.agg ds, fs)
    | none => none
  | v => decLeaf ρ v

def decAll (ρ : Look) : List AVal → Option (List Dat × List Id)
  | [] => some ([], [])
  | v :: r =>
    match dec ρ v, decAll ρ r with
    | some (d, f), some (ds, fs) => some (d :: ds, f ++ fs)
    | _, _ => none

/-- the updates that freeze these arrays -/
def frz (ρ : Look) : List Id → List (Id × Obj)
  | [] => []
  | id :: r =>
    match ρ id with
    | some (.arr sz ver _ es) => (id, .arr sz ver true es) :: frz ρ r
    | _ => frz ρ r

/-- the version of an array that is made anew under an id -/
def newVer (ρ : Look) (id : Id) : Option Nat :=
  match ρ id with
  | none => some 0
  | some (.arr _ v _ _) => some (v + 1)
  | some (.rarr v _) => some (v + 1)
  | some (.box _) => none

/-! ## Ids -/

mutual
def AVal.ids : AVal → List Id
  | .ref id _ => [id]
  | .eref id _ _ _ => [id]
  | .rsl id _ _ _ _ => [id]
  | .lits l => AVal.idsL l
  | .agg l => AVal.idsL l
  | .tup l => AVal.idsL l
  | .fn _ l => AVal.idsL l
  | _ => []
def AVal.idsL : List AVal → List Id
  | [] => []
  | v :: r => AVal.ids v ++ AVal.idsL r
end

def Obj.ids : Obj → List Id
  | .box l => AVal.idsL l
  | .arr _ _ _ _ => []
  | .rarr _ l => AVal.idsL l

mutual
def AVal.ren (f : Id → Id) : AVal → AVal
  | .ref id off => .ref (f id) off
  | .eref id ver i off => .eref (f id) ver i off
  | .rsl id ver sz off len => .rsl (f id) ver sz off len
  | .lits l => .lits (AVal.renL f l)
  | .agg l => .agg (AVal.renL f l)
  | .tup l => .tup (AVal.renL f l)
  | .fn g l => .fn g (AVal.renL f l)
  | .dat d => .dat d
  | .nils => .nils
  | .emp t => .emp t
  | .nilp => .nilp
  | .fp l => .fp l
  | .undef => .undef
def AVal.renL (f : Id → Id) : List AVal → List AVal
  | [] => []
  | v :: r => AVal.ren f v :: AVal.renL f r
end

def Obj.ren (f : Id → Id) : Obj → Obj
  | .box l => .box (AVal.renL f l)
  | .arr sz ver fz es => .arr sz ver fz es
  | .rarr ver l => .rarr ver (AVal.renL f l)

/-- the objects that are reached, in the order in which they are met -/
def collect (ρ : Look) : Nat → List Id → List Id → Option (List Id)
  | 0, _, _ => none
  | _ + 1, [], done => some done
  | n + 1, id :: todo, done =>
    if id ∈ done then collect ρ n todo done else
      match ρ id with
      | none => none
      | some o => collect ρ n (todo ++ o.ids) (done ++ [id])

def indexIn : List Id → Id → Nat
  | [], _ => 0
  | i' :: r, i => if i' = i then 0 else indexIn r i + 1

/-- out of a store: an object's number in the list -/
def toPos (order : List Id) (i : Id) : Id := (0, indexIn order i)

/-- back: a number in the list as an id of the caller's, what is new under the site's own -/
def fromPos (order : List Id) (site : Nat) (i : Id) : Id :=
  match order[i.2]? with
  | some j => j
  | none => (site + 1, i.2 - order.length)

def gather (ρ : Look) : List Id → Option (List Obj)
  | [] => some []
  | id :: r =>
    match ρ id, gather ρ r with
    | some o, some os => some (o :: os)
    | _, _ => none

/-! ## Operators -/

def intE (op : BinOp) (k : IntKind) (a b : Int) : Option AVal :=
  match op with
  | .add => some (.dat (.int k (k.wrap (a + b))))
  | .sub => some (.dat (.int k (k.wrap (a - b))))
  | .mul => some (.dat (.int k (k.wrap (a * b))))
  | .quo => if b = 0 then none else some (.dat (.int k (k.wrap (a.tdiv b))))
  | .rem => if b = 0 then none else some (.dat (.int k (a.tmod b)))
  | .and => some (.dat (.int k (k.wrap ((BitVec.ofInt k.bits a &&& BitVec.ofInt k.bits b).toNat))))
  | .or => some (.dat (.int k (k.wrap ((BitVec.ofInt k.bits a ||| BitVec.ofInt k.bits b).toNat))))
  | .xor => some (.dat (.int k (k.wrap ((BitVec.ofInt k.bits a ^^^ BitVec.ofInt k.bits b).toNat))))
  | .andNot => some (.dat (.int k (k.wrap ((BitVec.ofInt k.bits a &&& ~~~ BitVec.ofInt k.bits b).toNat))))
  | .eql => some (.dat (.bool (decide (a = b))))
  | .neq => some (.dat (.bool (!decide (a = b))))
  | .lss => some (.dat (.bool (decide (a < b))))
  | .leq => some (.dat (.bool (decide (a ≤ b))))
  | .gtr => some (.dat (.bool (decide (a > b))))
  | .geq => some (.dat (.bool (decide (a ≥ b))))
  | _ => none

def shiftE (op : BinOp) (k : IntKind) (a b : Int) : Option AVal :=
  if b < 0 then none else
  match op with
  | .shl => some (.dat (.int k (k.wrap (a * 2 ^ (min b.toNat k.bits)))))
  | .shr => some (.dat (.int k (a.fdiv (2 ^ (min b.toNat k.bits)))))
  | _ => none

/-- what is compared: by the operands' type -/
inductive BK where
  | int | bool | str | ptr | slc
  deriving DecidableEq

def boolE (op : BinOp) (a b : Bool) : Option AVal :=
  match op with
  | .eql => some (.dat (.bool (a == b)))
  | .neq => some (.dat (.bool (!(a == b))))
  | _ => none

def strE (op : BinOp) (a b : List UInt8) : Option AVal :=
  match op with
  | .eql => some (.dat (.bool (a == b)))
  | .neq => some (.dat (.bool (!(a == b))))
  | .lss => some (.dat (.bool (Op.bytesLess a b)))
  | .leq => some (.dat (.bool (Op.bytesLess a b || a == b)))
  | .gtr => some (.dat (.bool (!(Op.bytesLess a b || a == b))))
  | .geq => some (.dat (.bool (!Op.bytesLess a b)))
  | .add => if a.length + b.length ≤ 1099511627776 then some (.dat (.str (a ++ b))) else none
  | _ => none

/-- is the pointer nil? -/
def nilPE : AVal → Option Bool
  | .nilp => some true
  | .ref _ _ | .eref _ _ _ _ | .fp _ => some false
  | _ => none

/-- is the slice nil? -/
def nilSE : AVal → Option Bool
  | .nils => some true
  | .emp t => some t
  | .dat (.sl (_ :: _)) => some false
  | .rsl _ _ _ _ (_ + 1) => some false
  | .lits (_ :: _) => some false
  | _ => none

def cmpE (op : BinOp) (b : Bool) : Option AVal :=
  match op with
  | .eql => some (.dat (.bool b))
  | .neq => some (.dat (.bool (!b)))
  | _ => none

def binE (bk : BK) (op : BinOp) (x y : AVal) : Option AVal :=
  match bk, x, y with
  | .int, .dat (.int k a), .dat (.int k' b) =>
    match op with
    | .shl | .shr => shiftE op k a b
    | _ => if k = k' then intE op k a b else none
  | .bool, .dat (.bool a), .dat (.bool b) => boolE op a b
  | .str, .dat (.str a), .dat (.str b) => strE op a b
  | .ptr, x, .nilp => match nilPE x with
    | some b => cmpE op b
    | none => none
  | .ptr, .nilp, y => match nilPE y with
    | some b => cmpE op b
    | none => none
  | .slc, x, .nils => match nilSE x with
    | some b => cmpE op b
    | none => none
  | _, _, _ => none

def unE (op : UnOp) (x : AVal) : Option AVal :=
  match op, x with
  | .neg, .dat (.int k n) => some (.dat (.int k (k.wrap (0 - n))))
  | .xor, .dat (.int k n) => some (.dat (.int k (k.wrap ((BitVec.ofInt k.bits (if k.signed then -1 else k.max) ^^^ BitVec.ofInt k.bits n).toNat))))
  | .not, .dat (.bool b) => some (.dat (.bool (!b)))
  | _, _ => none

def mmE (isMax : Bool) : AVal → AVal → Option AVal
  | .dat (.int k a), .dat (.int k' b) =>
    if k = k' then (if isMax then some (.dat (.int k (if b > a then b else a))) else some (.dat (.int k (if b < a then b else a)))) else none
  | _, _ => none

def mmsE (isMax : Bool) : AVal → List AVal → Option AVal
  | x, [] => match x with
    | .dat (.int _ _) => some x
    | _ => none
  | x, y :: r => match mmE isMax x y with
    | some z => mmsE isMax z r
    | none => none

/-! ## The compact code -/

inductive AX where
  | t (n : Nat)
  | c (v : AVal)
  deriving Inhabited

inductive Md where
  | d | o | r
  deriving DecidableEq, Inhabited

inductive AK where
  | mv (x : AX)
  | mvNil (md : Md) (sz : Nat)
  | pick (c a b : AX)
  | nilChk (x : AX)
  | bin (bk : BK) (op : BinOp) (x y : AX)
  | un (op : UnOp) (x : AX)
  | cvt (k : IntKind) (x : AX)
  | b2s (x : AX)
  | fAddr (off : Nat) (x : AX)
  | fld (off n : Nat) (agg : Bool) (x : AX)
  | iAddr (sz : Nat) (x i : AX)
  | iAddrA (n sz : Nat) (x i : AX)
  | idx (n sz : Nat) (agg : Bool) (x i : AX)
  | idxS (x i : AX)
  | ext (i : Nat) (x : AX)
  | len (str : Bool) (x : AX)
  | mm (isMax : Bool) (x : AX) (r : List AX)
  | bld (zero : List AVal) (parts : List (Nat × Nat × AX))
  | bldS (md : Md) (sz : Nat) (xs : List AX)
  | box (n : Nat) (x : AX)
  | alc (zero : List AVal)
  | ld (n : Nat) (agg : Bool) (a : AX)
  | st (n : Nat) (a v : AX)
  | mk (md : Md) (sz bytes : Nat) (zero : List AVal) (l c : AX)
  | slc (str : Bool) (sz : Nat) (x : AX) (lo hi : Option AX)
  | app (md : Md) (sz bytes : Nat) (x y : AX)
  | cpy (sz : Nat) (x y : AX)
  | clr (zero : List AVal) (x : AX)
  | call (f : FuncId) (args : List (AX × Bool)) (scalar : Bool)
  deriving Inhabited

structure AO where
  dst : Option Nat
  k : AK
  guard : Option (Nat × Bool) := none
  lg : Bool := false
  deriving Inhabited

structure AReg where
  live : List Nat
  drop : List Nat
  ops : List AO
  pairs : List (Nat × Nat)
  deriving Inhabited

inductive AC where
  | skip
  | reg (r : AReg)
  | seq (a b : AC)
  | cond (x : AX) (a b : AC)
  | block (id : Nat) (c : AC)
  | loop (c : AC)
  | exit (id : Nat)
  | ret
  deriving Inhabited

inductive AEx where
  | normal
  | exit (id : Nat)
  | ret
  deriving DecidableEq, Inhabited

structure AFun where
  np : Nat
  res : List Nat
  keep : Bool
  code : AC
  split : Option Nat := none
  deriving Inhabited

structure St where
  env : Env
  objs : Store

/-! ## Operations -/

abbrev Out := AVal × List (Id × Obj)

abbrev Orc := FuncId → List AVal → List Obj → Option (AVal × List Obj)

def evX (g : Nat → AVal) : AX → AVal
  | .t n => g n
  | .c v => v

def intOf? : AVal → Option Int
  | .dat (.int _ n) => some n
  | _ => none

def ptrAdd (n : Nat) : AVal → Option AVal
  | .ref id off => some (.ref id (off + n))
  | .eref id ver i off => some (.eref id ver i (off + n))
  | .fp l => if n ≤ l.length then some (.fp (l.drop n)) else none
  | _ => none

def partE (agg : Bool) (off n : Nat) : AVal → Option AVal
  | .agg l => if off + n ≤ l.length then (if agg then some (.agg ((l.drop off).take n)) else l[off]?) else none
  | .dat (.agg l) => if off + n ≤ l.length then (if agg then some (.dat (.agg ((l.drop off).take n))) else (l[off]?).map .dat) else none
  | _ => none

def iAddrE (sz : Nat) (x : AVal) (i : Int) : Option AVal :=
  match x with
  | .rsl id ver sz' off len => if sz = sz' ∧ 0 ≤ i ∧ i < len then some (.eref id ver (off + i.toNat) 0) else none
  | .dat (.sl l) => if 0 ≤ i then (match l[i.toNat]? with
    | some d => if d.width = sz then some (.fp d.cells) else none
    | none => none) else none
  | _ => none

def sliceE (sz : Nat) (x : AVal) (lo : Int) (hi : Option Int) : Option AVal :=
  match x with
  | .rsl id ver sz' off len =>
    let h := hi.getD len
    if 0 ≤ lo ∧ lo ≤ h ∧ h ≤ len ∧ sz = sz' then some (.rsl id ver sz' (off + lo.toNat) (h - lo).toNat) else none
  | .dat (.sl l) =>
    let h := hi.getD l.length
    if 0 ≤ lo ∧ lo ≤ h ∧ h ≤ l.length ∧ l.all (fun d => d.width == sz) then some (.dat (.sl ((l.drop lo.toNat).take (h - lo).toNat))) else none
  | .nils => if lo = 0 ∧ hi.getD 0 = 0 then some .nils else none
  | _ => none

def sliceS (x : AVal) (lo : Int) (hi : Option Int) : Option AVal :=
  match x with
  | .dat (.str l) =>
    let h := hi.getD l.length
    if 0 ≤ lo ∧ lo ≤ h ∧ h ≤ l.length then some (.dat (.str ((l.drop lo.toNat).take (h - lo).toNat))) else none
  | _ => none

def lenE : AVal → Option AVal
  | .rsl _ _ _ _ len => some (.dat (.int .i64 len))
  | .dat (.sl l) => some (.dat (.int .i64 l.length))
  | .nils => some (.dat (.int .i64 0))
  | .emp _ => some (.dat (.int .i64 0))
  | .lits l => some (.dat (.int .i64 l.length))
  | _ => none

def lenS : AVal → Option AVal
  | .dat (.str l) => some (.dat (.int .i64 l.length))
  | _ => none

/-- write cells into cells -/
def splice {α : Type} (l : List α) (off : Nat) (v : List α) : List α := l.take off ++ v ++ l.drop (off + v.length)

def loadE (ρ : Look) (n : Nat) (agg : Bool) : AVal → Option AVal
  | .ref id off => match ρ id with
    | some (.box cs) => if off + n ≤ cs.length then (if agg then some (.agg ((cs.drop off).take n)) else cs[off]?) else none
    | _ => none
  | .eref id ver i off => match ρ id with
    | some (.arr _ ver' _ es) => if ver = ver' then (match es[i]? with
      | some d => if off + n ≤ d.cells.length then (if agg then some (.dat (.agg ((d.cells.drop off).take n))) else (d.cells[off]?).map .dat) else none
      | none => none) else none
    | some (.rarr ver' es) => if ver = ver' ∧ off = 0 ∧ agg = false then es[i]? else none
    | _ => none
  | .fp l => if n ≤ l.length then (if agg then some (.dat (.agg (l.take n))) else (l[0]?).map .dat) else none
  | _ => none

def storeE (ρ : Look) (n : Nat) (a v : AVal) : Option (List (Id × Obj)) :=
  match a with
  | .ref id off => match ρ id with
    | some (.box cs) => if v.cells.length = n ∧ off + n ≤ cs.length ∧ v.cells.all AVal.leaf then some [(id, .box (splice cs off v.cells))] else none
    | _ => none
  | .eref id ver i off => match ρ id with
    | some (.arr sz ver' false es) =>
      match dec ρ v, es[i]? with
      | some (d, fs), some e =>
        if ver = ver' ∧ d.width = n ∧ off + n ≤ sz ∧ id ∉ fs ∧ e.width = sz then
          some (frz ρ fs ++ [(id, .arr sz ver false (es.set i (if e.isAgg then .agg (splice e.cells off d.cells) else d)))])
        else none
      | _, _ => none
    | some (.rarr ver' es) => if ver = ver' ∧ off = 0 ∧ n = 1 ∧ i < es.length ∧ v.leaf then some [(id, .rarr ver (es.set i v))] else none
    | _ => none
  | _ => none

def allSome {α : Type} : List (Option α) → Option (List α)
  | [] => some []
  | none :: _ => none
  | some a :: r => match allSome r with
    | some l => some (a :: l)
    | none => none

/-- fill the cells of a struct -/
def fillE (cs : List AVal) : List (Nat × Nat × AVal) → Option (List AVal)
  | [] => some cs
  | (off, n, v) :: r => if v.cells.length = n ∧ off + n ≤ cs.length ∧ v.cells.all AVal.leaf then fillE (splice cs off v.cells) r else none

def zeroDat (zero : List AVal) : Option Dat :=
  match zero with
  | [.dat d] => if d.isAgg then none else some d
  | [.nils] => some (.sl [])
  | _ => match decLeaves (fun _ => none) zero with
    | some (ds, _) => some (.agg ds)
    | none => none

def room : Nat := 1099511627776

/-- a result that leads to no memory -/
def scalD : Dat → Bool
  | .int _ _ => true
  | .bool _ => true
  | .str _ => true
  | .sl _ => false
  | .agg _ => false

def scalV : AVal → Bool
  | .dat d => scalD d
  | .tup l => l.all fun | .dat d => scalD d | _ => false
  | _ => false

/-- one operation: its value, and what becomes of the store -/
def opE (K : Orc) (site : Nat) (k : AK) (g : Nat → AVal) (ρ : Look) : Option Out :=
  match k with
  | .mv x => some (evX g x, [])
  | .mvNil md sz => match newVer ρ (site + 1, 0) with
    | none => none
    | some nv => match md with
      | .o => if 1 ≤ sz then some (.rsl (site + 1, 0) nv sz 0 0, [((site + 1, 0), .arr sz nv false [])]) else none
      | .r => some (.rsl (site + 1, 0) nv 1 0 0, [((site + 1, 0), .rarr nv [])])
      | .d => none
  | .pick c a b => match evX g c with
    | .dat (.bool t) => some (if t then evX g a else evX g b, [])
    | _ => none
  | .nilChk x => match evX g x with
    | .ref id off => some (.ref id off, [])
    | .eref id ver i off => some (.eref id ver i off, [])
    | .fp l => some (.fp l, [])
    | _ => none
  | .bin bk op x y => (binE bk op (evX g x) (evX g y)).map (·, [])
  | .un op x => (unE op (evX g x)).map (·, [])
  | .cvt k x => match evX g x with
    | .dat (.int _ n) => some (.dat (.int k (k.wrap n)), [])
    | _ => none
  | .b2s x => match elemsOf ρ 1 (evX g x) with
    | some l => match allSome (l.map fun | .int .u8 n => some (UInt8.ofNat n.toNat) | _ => none) with
      | some s => some (.dat (.str s), [])
      | none => none
    | none => none
  | .fAddr off x => (ptrAdd off (evX g x)).map (·, [])
  | .fld off n agg x => (partE agg off n (evX g x)).map (·, [])
  | .iAddr sz x i => match intOf? (evX g i) with
    | some i => (iAddrE sz (evX g x) i).map (·, [])
    | none => none
  | .iAddrA n sz x i => match intOf? (evX g i) with
    | some i => if 0 ≤ i ∧ i < n then (ptrAdd (i.toNat * sz) (evX g x)).map (·, []) else none
    | none => none
  | .idx n sz agg x i => match intOf? (evX g i) with
    | some i => if 0 ≤ i ∧ i < n then (partE agg (i.toNat * sz) sz (evX g x)).map (·, []) else none
    | none => none
  | .idxS x i => match evX g x, intOf? (evX g i) with
    | .dat (.str s), some i => if 0 ≤ i then (s[i.toNat]?).map fun b => (.dat (.int .u8 b.toNat), []) else none
    | _, _ => none
  | .ext i x => match evX g x with
    | .tup l => (l[i]?).map (·, [])
    | _ => none
  | .len str x => (if str then lenS (evX g x) else lenE (evX g x)).map (·, [])
  | .mm isMax x r => (mmsE isMax (evX g x) (r.map (evX g))).map (·, [])
  | .bld zero parts => (fillE zero (parts.map fun p => (p.1, p.2.1, evX g p.2.2))).map fun cs => (.agg cs, [])
  | .bldS md sz xs =>
    let vs := xs.map (evX g)
    match md with
    | .r => if sz = 1 ∧ vs.all AVal.leaf then some (.lits vs, []) else none
    | _ => match decAll ρ vs with
      | some (ds, fs) =>
        if ds.all (fun d => d.width == sz) then
          match md with
          | .d => some (.dat (.sl ds), frz ρ fs)
          | _ => match newVer ρ (site + 1, 0) with
            | some nv => if 1 ≤ sz ∧ (site + 1, 0) ∉ fs then some (.rsl (site + 1, 0) nv sz 0 ds.length, frz ρ fs ++ [((site + 1, 0), .arr sz nv false ds)]) else none
            | none => none
        else none
      | none => none
  | .box n x => match ρ (site + 1, 0) with
    | some _ => none
    | none => if (evX g x).cells.length = n ∧ (evX g x).cells.all AVal.leaf then some (.ref (site + 1, 0) 0, [((site + 1, 0), .box (evX g x).cells)]) else none
  | .alc zero => match ρ (site + 1, 0) with
    | some _ => none
    | none => some (.ref (site + 1, 0) 0, [((site + 1, 0), .box zero)])
  | .ld n agg a => (loadE ρ n agg (evX g a)).map (·, [])
  | .st n a v => (storeE ρ n (evX g a) (evX g v)).map (.tup [], ·)
  | .mk md sz bytes zero l c => match intOf? (evX g l), intOf? (evX g c) with
    | some l, some c =>
      if 0 ≤ l ∧ l ≤ c ∧ bytes * c ≤ room ∧ c ≤ room then
        match md with
        | .r => match zero, newVer ρ (site + 1, 0) with
          | [z], some nv => if sz = 1 ∧ z.leaf ∧ z.ids = [] then some (.rsl (site + 1, 0) nv 1 0 l.toNat, [((site + 1, 0), .rarr nv (List.replicate l.toNat z))]) else none
          | _, _ => none
        | _ => match zeroDat zero with
          | some z => if z.width = sz ∧ 1 ≤ sz then
              (match md with
              | .d => some (.dat (.sl (List.replicate l.toNat z)), [])
              | _ => match newVer ρ (site + 1, 0) with
                | none => none
                | some nv => some (.rsl (site + 1, 0) nv sz 0 l.toNat, [((site + 1, 0), .arr sz nv false (List.replicate l.toNat z))]))
            else none
          | none => none
      else none
    | _, _ => none
  | .slc str sz x lo hi =>
    match (match lo with | some l => intOf? (evX g l) | none => some 0), (match hi with | some h => (intOf? (evX g h)).map some | none => some none) with
    | some l, some h => (if str then sliceS (evX g x) l h else sliceE sz (evX g x) l h).map (·, [])
    | _, _ => none
  | .app md sz bytes x y =>
    match evX g x with
    | .rsl id ver sz' off len =>
      match ρ id with
      | some (.arr sz'' ver' false es) =>
        match srcOf ρ sz (evX g y) with
        | some ds =>
          if ver = ver' ∧ sz = sz' ∧ sz' = sz'' ∧ off = 0 ∧ len = es.length ∧ (len + ds.length) * (bytes + 1) ≤ room then
            (if ds.length = 0 then some (.rsl id ver sz' off len, [])
            else some (.rsl id (ver + 1) sz' off (len + ds.length), [(id, .arr sz (ver + 1) false (es ++ ds))]))
          else none
        | none => none
      | some (.rarr ver' es) =>
        match evX g y with
        | .lits ws =>
          if ver = ver' ∧ sz = sz' ∧ sz = 1 ∧ off = 0 ∧ len = es.length ∧ ws.length ≠ 0 ∧ (len + ws.length) * (bytes + 1) ≤ room then
            some (.rsl id (ver + 1) sz' off (len + ws.length), [(id, .rarr (ver + 1) (es ++ ws))])
          else none
        | _ => none
      | _ => none
    | .nils =>
      match md with
      | .r => match evX g y, newVer ρ (site + 1, 0) with
        | .lits ws, some nv => if sz = 1 ∧ ws.length ≠ 0 ∧ ws.length * (bytes + 1) ≤ room then some (.rsl (site + 1, 0) nv 1 0 ws.length, [((site + 1, 0), .rarr nv ws)]) else none
        | _, _ => none
      | _ => match srcOf ρ sz (evX g y), newVer ρ (site + 1, 0) with
        | some ds, some nv => if 1 ≤ sz ∧ ds.length ≠ 0 ∧ ds.length * (bytes + 1) ≤ room then some (.rsl (site + 1, 0) nv sz 0 ds.length, [((site + 1, 0), .arr sz nv false ds)]) else none
        | _, _ => none
    | _ => none
  | .cpy sz x y =>
    match evX g x, srcOf ρ sz (evX g y) with
    | .rsl id ver sz' off len, some ds =>
      (match ρ id with
      | some (.arr sz'' ver' false es) =>
        if ver = ver' ∧ sz = sz' ∧ sz' = sz'' ∧ off + len ≤ es.length then
          some (.dat (.int .i64 (min ds.length len : Nat)), [(id, .arr sz ver false (splice es off (ds.take len)))])
        else none
      | _ => none)
    | _, _ => none
  | .clr zero x =>
    match evX g x, zeroDat zero with
    | .rsl id ver sz off len, some z =>
      (match ρ id with
      | some (.arr sz' ver' false es) =>
        if ver = ver' ∧ sz = sz' ∧ off + len ≤ es.length ∧ z.width = sz then
          some (.tup [], [(id, .arr sz ver false (splice es off (List.replicate len z)))])
        else none
      | _ => none)
    | _, _ => none
  | .call f args scalar =>
    match argsE ρ (args.map fun p => (evX g p.1, p.2)) with
    | none => none
    | some (vs, fs) =>
      match collect ρ 64 (AVal.idsL vs) [] with
      | none => none
      | some order =>
        match gather ρ order with
        | none => none
        | some os =>
          if fs.any (fun i => order.contains i) then none else
          match K f (AVal.renL (toPos order) vs) (os.map (Obj.ren (toPos order))) with
          | none => none
          | some (v, os') =>
            if scalar && order.isEmpty then (if os'.isEmpty && scalV v then some (v, []) else none) else
            if os'.length < order.length then none else
            if (List.range (os'.length - order.length)).any (fun j => (ρ (site + 1, j)).isSome) then none else
            some (v.ren (fromPos order site),
              frz ρ fs ++ (((List.range os'.length).map fun j => fromPos order site (0, j)).zip (os'.map (Obj.ren (fromPos order site)))))
  where
  /-- the arguments of a call, as the callee gets them: what is not handed by reference is read as data -/
  argsE (ρ : Look) : List (AVal × Bool) → Option (List AVal × List Id)
    | [] => some ([], [])
    | (v, byRef) :: r =>
      match argsE ρ r with
      | none => none
      | some (vs, fs) =>
        if byRef then some (v :: vs, fs) else
        match dec ρ v with
        | some (d, f) => some (.dat d :: vs, f ++ fs)
        | none => none

/-- which objects an operation may look at -/
def touch (k : AK) (g : Nat → AVal) (ρ : Look) : List Id :=
  match k with
  | .b2s x => (evX g x).ids
  | .bldS _ _ xs => AVal.idsL (xs.map (evX g))
  | .ld _ _ a => (evX g a).ids
  | .st _ a v => (evX g a).ids ++ (evX g v).ids
  | .app _ _ _ x y => (evX g x).ids ++ (evX g y).ids
  | .cpy _ x y => (evX g x).ids ++ (evX g y).ids
  | .clr _ x => (evX g x).ids
  | .call _ args _ =>
    (AVal.idsL (args.map fun p => evX g p.1)) ++
    (match opE.argsE ρ (args.map fun p => (evX g p.1, p.2)) with
      | some (vs, _) => (collect ρ 64 (AVal.idsL vs) []).getD []
      | none => [])
  | _ => []

/-! ## Regions and code -/

def isTrue? : AVal → Option Bool
  | .dat (.bool b) => some b
  | .tup [] => some false
  | _ => none

/-- an operation behind its guard: not wanted gives the empty tuple -/
def aoE (K : Orc) (o : AO) (g : Nat → AVal) (ρ : Look) : Option Out :=
  match o.guard with
  | none => opE K (o.dst.getD 0) o.k g ρ
  | some (t, want) =>
    match g t with
    | .dat (.bool b) => if b = want then opE K (o.dst.getD 0) o.k g ρ else some (.tup [], [])
    | .tup [] => some (.tup [], [])
    | _ => none

def putE (env : Env) : Option Nat → AVal → Env
  | some d, v => (d, v) :: env
  | none, _ => env

abbrev Log := List (Nat × List Id × List Id)

def logOf (o : AO) (i : Nat) (g : Nat → AVal) (ρ : Look) (out : Out) : Log :=
  if o.lg then [(i, touch o.k g ρ, out.2.map (·.1))] else []

def runOps (K : Orc) : Nat → List AO → St → Log → Option (St × Log)
  | _, [], s, lg => some (s, lg)
  | i, o :: r, s, lg =>
    match aoE K o (gE s.env) (gO s.objs) with
    | none => none
    | some out => runOps K (i + 1) r ⟨putE s.env o.dst out.1, pOs s.objs out.2⟩ (lg ++ logOf o i (gE s.env) (gO s.objs) out)

def logAt (lg : Log) (i : Nat) : List Id × List Id :=
  match lg with
  | [] => ([], [])
  | (j, a) :: r => if j = i then a else logAt r i

def meets (a b : List Id) : Bool := a.any fun i => b.contains i

def pairOk (lg : Log) (p : Nat × Nat) : Bool :=
  let a := logAt lg p.1
  let b := logAt lg p.2
  !(meets a.2 b.1) && !(meets a.2 b.2) && !(meets a.1 b.2)

def restrict (live : List Nat) (env : Env) : Env := live.map fun t => (t, gE env t)

/-- the objects that a slot leads to get its name, in the order in which they are met -/
def nameL (t : Nat) : Nat → List Id → List (Id × Id) → List (Id × Id)
  | _, [], done => done
  | k, i :: r, done => if i.1 == 0 || done.any (fun p => p.1 == i) then nameL t (k + 1) r done else nameL t (k + 1) r (done ++ [(i, (t + 1, k))])

def namesE (ρ : Look) (g : Nat → AVal) : List Nat → List (Id × Id) → Option (List (Id × Id))
  | [], done => some done
  | t :: r, done => match collect ρ 64 (g t).ids [] with
    | none => none
    | some l => namesE ρ g r (nameL t 0 l done)

def lookN : List (Id × Id) → Id → Id
  | [], i => i
  | (i', j) :: r, i => if i' = i then j else lookN r i

/-- the elements of an array of references -/
def elemsR (ρ : Look) : AVal → List AVal
  | .rsl id _ _ _ _ => match ρ id with
    | some (.rarr _ es) => es
    | _ => []
  | _ => []

/-- what the elements of an array of references lead to is named by their places: (b, i), and (b + 1, i) for what lies behind -/
def placesE (ρ : Look) (b : Nat) (done : List Id) : Nat → List AVal → Option (List (Id × Id))
  | _, [] => some []
  | i, v :: r => match placesE ρ b done (i + 1) r with
    | none => none
    | some l => match v.ids with
      | [] => some l
      | id :: _ => match ρ id with
        | none => none
        | some o => some ((id, (b, i)) :: ((o.ids.filter fun j => !done.contains j).map fun j => (j, (b + 1, i))) ++ l)

/-- is what is kept closed: inputs and live slots are in, and what an object leads to -/
def closedB (ρ : Look) (ks : List Id) (env : Env) (order : List Id) : Bool :=
  ks.all (fun i => i.1 != 0 || order.contains i) && (AVal.idsL (env.map (·.2))).all (fun i => order.contains i) &&
  order.all (fun i => match ρ i with
    | none => false
    | some o => o.ids.all fun j => order.contains j)

/-- over lists of references: what the roots reach is named as ever; the slices' own arrays by their slots; what their elements lead to by its place -/
def renE (spec : List Nat) (s : St) : Option St :=
  match spec with
  | b :: js :: rs :: roots =>
    match namesE (gO s.objs) (gE s.env) roots [] with
    | none => none
    | some nm1 =>
      match placesE (gO s.objs) b (nm1.map (·.1)) 0 (elemsR (gO s.objs) (gE s.env js)), placesE (gO s.objs) (b + 2) (nm1.map (·.1)) 0 (elemsR (gO s.objs) (gE s.env rs)) with
      | some n3, some n4 =>
        let nm := nameL rs 0 (gE s.env rs).ids (nameL js 0 (gE s.env js).ids nm1) ++ (n3 ++ n4)
        let order := nm.map (·.1)
        match gather (gO s.objs) order with
        | none => none
        | some os =>
          if (order.map (lookN nm)).Nodup ∧ order.all (fun i => i.1 != 0 || lookN nm i == i) ∧ closedB (gO s.objs) (s.objs.map (·.1)) s.env order then
            some ⟨s.env.map fun p => (p.1, p.2.ren (lookN nm)), (order.map (lookN nm)).zip (os.map (Obj.ren (lookN nm)))⟩
          else none
      | _, _ => none
  | _ => none

/-- at a loop's head: what is not reached is dropped, what the slots lead to is named after them -/
def dropE (names : List Nat) (s : St) : Option St :=
  match names with
  | [] => some s
  | t :: r => if t = 1000000 then renE r s else match namesE (gO s.objs) (gE s.env) (t :: r) [] with
    | none => none
    | some nm => match collect (gO s.objs) 64 ((s.objs.map (·.1)).filter (fun i => i.1 == 0) ++ AVal.idsL (s.env.map (·.2))) [] with
      | none => none
      | some order => match gather (gO s.objs) order with
        | none => none
        | some os =>
          if (order.map (lookN nm)).Nodup ∧ order.all (fun i => i.1 != 0 || lookN nm i == i) then
            some ⟨s.env.map fun p => (p.1, p.2.ren (lookN nm)), (order.map (lookN nm)).zip (os.map (Obj.ren (lookN nm)))⟩
          else none

def runReg (K : Orc) (r : AReg) (s : St) : Option St :=
  match dropE r.drop ⟨restrict r.live s.env, s.objs⟩ with
  | none => none
  | some s =>
    match runOps K 0 r.ops s [] with
    | none => none
    | some (s, lg) => if r.pairs.all (pairOk lg) then some s else none

def iter (body : St → Option (AEx × St)) : Nat → St → Option (AEx × St)
  | 0, _ => none
  | n + 1, s =>
    match body s with
    | none => none
    | some (.normal, s') => iter body n s'
    | some r => some r

open Classical in
noncomputable def loopLim (body : St → Option (AEx × St)) (s : St) : Option (AEx × St) :=
  if h : ∃ r, ∃ n, iter body n s = some r then some (Classical.choose h) else none

noncomputable def exec (K : Orc) : AC → St → Option (AEx × St)
  | .skip, s => some (.normal, s)
  | .reg r, s => match runReg K r s with
    | some s => some (.normal, s)
    | none => none
  | .seq a b, s =>
    match exec K a s with
    | some (.normal, s') => exec K b s'
    | r => r
  | .cond x a b, s =>
    match evX (gE s.env) x with
    | .dat (.bool t) => if t then exec K a s else exec K b s
    | _ => none
  | .block id c, s =>
    match exec K c s with
    | some (.exit id', s') => if id' = id then some (.normal, s') else some (.exit id', s')
    | r => r
  | .loop c, s => loopLim (exec K c) s
  | .exit id, s => some (.exit id, s)
  | .ret, s => some (.ret, s)

/-- a result: what is handed back is read as data, references stay -/
def resE (ρ : Look) (keep : Bool) (v : AVal) : Option (AVal × List Id) :=
  match v with
  | .ref id off => some (.ref id off, [])
  | .nilp => some (.nilp, [])
  | .rsl id ver sz off len => if keep then some (.rsl id ver sz off len, []) else (decLeaf ρ (.rsl id ver sz off len)).map fun p => (.dat p.1, p.2)
  | v => match dec ρ v with
    | some (d, f) => some (.dat d, f)
    | none => none

def ressE (ρ : Look) (keep : Bool) : List AVal → Option (List AVal × List Id)
  | [] => some ([], [])
  | v :: r =>
    match resE ρ keep v, ressE ρ keep r with
    | some (d, f), some (ds, fs) => some (d :: ds, f ++ fs)
    | _, _ => none

def retE (fn : AFun) (m : Nat) (s : St) : Option (AVal × List Obj) :=
  match ressE (gO s.objs) fn.keep (fn.res.map (gE s.env)) with
  | none => none
  | some (vs, fs) =>
    let objs := pOs s.objs (frz (gO s.objs) fs)
    match collect (gO objs) 64 ((List.range m).map (fun j => ((0, j) : Id)) ++ AVal.idsL vs) [] with
    | none => none
    | some order =>
      match gather (gO objs) order with
      | none => none
      | some os =>
        let vs := AVal.renL (toPos order) vs
        some (match vs with | [v] => v | _ => .tup vs, os.map (Obj.ren (toPos order)))

def enter (args : List AVal) (os : List Obj) : St :=
  ⟨args.zipIdx.map fun p => (p.2, p.1), os.zipIdx.map fun p => ((0, p.2), p.1)⟩

noncomputable def runFun (K : Orc) (fn : AFun) (args : List AVal) (os : List Obj) : Option (AVal × List Obj) :=
  if args.length = fn.np then
    match exec K fn.code (enter args os) with
    | some (.normal, s) => retE fn os.length s
    | some (.ret, s) => retE fn os.length s
    | _ => none
  else none

open Classical in
/-- a function that asks of an empty slice whether it is nil: both answers must come to the same -/
noncomputable def runS (K : Orc) (fn : AFun) (args : List AVal) (os : List Obj) : Option (AVal × List Obj) :=
  match fn.split with
  | none => runFun K fn args os
  | some i => match args[i]? with
    | some (.dat (.sl [])) => match runFun K fn (args.set i (.emp true)) os, runFun K fn (args.set i (.emp false)) os with
      | some r, some r' => if r = r' then some r else none
      | _, _ => none
    | _ => runFun K fn args os

noncomputable def Kn (tbl : FuncId → Option AFun) : Nat → Orc
  | 0 => fun _ _ _ => none
  | n + 1 => fun f args os => match tbl f with
    | some fn => runS (Kn tbl n) fn args os
    | none => none

open Classical in
noncomputable def callT (tbl : FuncId → Option AFun) : Orc := fun f args os =>
  if h : ∃ r, ∃ n, Kn tbl n f args os = some r then some (Classical.choose h) else none

end Go.Am

/- The abstract machine: from the code of the model to the compact code. -/
set_option linter.unusedVariables false
namespace Go.Am

/-- a constant -/
def cst : Value → Option AVal
  | .int k n => some (.dat (.int k n))
  | .bool b => some (.dat (.bool b))
  | .string s => some (.dat (.str s.data.toList))
  | .slice none 0 0 => some .nils
  | .pointer none => some .nilp
  | _ => none

def cstCells (v : Value) : Option (List AVal) := allSome (v.cells.toList.map cst)

def cX : Operand → Option AX
  | .tmp t => some (.t t)
  | .const v => match v with
    | .agg cs => (allSome (cs.toList.map cst)).map fun l => .c (.agg l)
    | v => (cst v).map .c
  | .func f => some (.c (.fn f []))
  | .global _ => none

def cXs (xs : Array Operand) : Option (List AX) := allSome (xs.toList.map cX)

structure TI where
  size : Nat
  bytes : Nat
  agg : Bool
  zero : Option (List AVal)

def tI (P : Program) (t : TypeId) : Option TI :=
  match P.info? t, P.underlying t with
  | some i, some d => some ⟨i.size, i.bytes, match d with | .struct _ | .array _ _ => true | _ => false, i.zero.bind cstCells⟩
  | _, _ => none

/-- a type whose zero value is known, cell by cell -/
def TI.zok (q : TI) : Bool :=
  match q.zero with
  | some l => l.length == q.size && decide (1 ≤ q.size)
  | none => false

/-- a struct type whose fields' types are all known -/
def structOk (P : Program) (t : TypeId) : Bool :=
  match P.underlying t with
  | some (.struct fs) => fs.toList.all fun fd => (tI P fd.type).isSome
  | _ => false

def elemT (P : Program) (t : TypeId) : Option TypeId :=
  match P.underlying t with
  | some (.slice e) => some e
  | _ => none

/-- the field's place: its offset, its size, whether it is a struct or an array -/
def fieldT (P : Program) (t : TypeId) (f : Nat) : Option (Nat × TI) :=
  match P.underlying t with
  | some (.struct fs) => match fs[f]? with
    | some fd => (tI P fd.type).map fun i => (fd.offset, i)
    | none => none
  | _ => none

def bkOf (P : Program) (t : TypeId) : Option BK :=
  match P.underlying t with
  | some (.int _) => some .int
  | some .bool => some .bool
  | some .string => some .str
  | some (.pointer _) => some .ptr
  | some (.slice _) => some .slc
  | _ => none

def isScalar (P : Program) (t : TypeId) : Bool :=
  match P.underlying t with
  | some (.int _) | some .bool | some .string => true
  | _ => false

def enterable (P : Program) (f : FuncId) : Bool :=
  match P.funcs[f]? with
  | some fn => fn.name != "runtime.NumGoroutine" && fn.body.isSome
  | none => false

def partsOf (P : Program) (t : TypeId) (parts : List (Nat × Operand)) : Option (List (Nat × Nat × AX)) :=
  allSome (parts.map fun p => match fieldT P t p.1, cX p.2 with
    | some (off, i), some x => some (off, i.size, x)
    | _, _ => none)

/-- the marks that a person sets at an operation: how a slice is held, which arguments go by reference -/
structure Mk where
  md : Md := .d
  byRef : List Nat := []

def cOp (P : Program) (m : Mk) (o : Oper) : Option AK :=
  match o.op with
  | .move x | .assign x =>
    if m.md = .d then (cX x).map .mv else
    match x with
    | .const (.slice none 0 0) => match (elemT P o.type).bind (tI P) with
      | some i => if 1 ≤ i.size then some (.mvNil m.md i.size) else none
      | none => none
    | _ => none
  | .pick c a b => match cX c, cX a, cX b with
    | some c, some a, some b => some (.pick c a b)
    | _, _, _ => none
  | .nilCheck x => (cX x).map .nilChk
  | .binOp op t x y _ => match bkOf P t, cX x, cX y with
    | some bk, some x, some y => some (.bin bk op x y)
    | _, _, _ => none
  | .unOp op _ x => (cX x).map (.un op)
  | .convert s d x => match P.underlying s, P.underlying d, cX x with
    | some (.int _), some (.int k), some x => some (.cvt k x)
    | some (.slice e), some .string, some x => match P.underlying e, tI P e with
      | some (.int .u8), some i => if i.size = 1 then some (.b2s x) else none
      | _, _ => none
    | _, _, _ => none
  | .fieldAddr t x f => match fieldT P t f, cX x with
    | some (off, i), some x => if i.size = 0 then none else some (.fAddr off x)
    | _, _ => none
  | .field t x f => match fieldT P t f, cX x with
    | some (off, i), some x => if 1 ≤ i.size then some (.fld off i.size i.agg x) else none
    | _, _ => none
  | .indexAddr t x i => match P.underlying t, cX x, cX i with
    | some (.slice e), some x, some i => (tI P e).map fun q => .iAddr q.size x i
    | some (.array n e), some x, some i => (tI P e).map fun q => .iAddrA n q.size x i
    | _, _, _ => none
  | .index t x i => match P.underlying t, cX x, cX i with
    | some (.array n e), some x, some i => match tI P e with
      | some q => if 1 ≤ q.size then some (.idx n q.size q.agg x i) else none
      | none => none
    | some .string, some x, some i => some (.idxS x i)
    | _, _, _ => none
  | .extract x i => (cX x).map (.ext i)
  | .load t a => match tI P t, cX a with
    | some i, some a => if 1 ≤ i.size then some (.ld i.size i.agg a) else none
    | _, _ => none
  | .store t a v => match tI P t, cX a, cX v with
    | some i, some a, some v => if 1 ≤ i.size then some (.st i.size a v) else none
    | _, _, _ => none
  | .box t x => match tI P t, cX x with
    | some i, some x => some (.box i.size x)
    | _, _ => none
  | .alloc t => match tI P t with
    | some i => i.zero.map .alc
    | none => none
  | .build t parts => match tI P t, partsOf P t parts.toList with
    | some i, some ps => if structOk P t then i.zero.map fun z => .bld z ps else none
    | _, _ => none
  | .buildSlice t len parts => match (elemT P t).bind (tI P), cXs (parts.map (·.2)) with
    | some i, some xs => if parts.toList.map (·.1) = List.range len ∧ len * i.size ≤ 1048576 ∧ 1 ≤ i.size ∧ i.zero.isSome then some (.bldS m.md i.size xs) else none
    | _, _ => none
  | .makeSlice t l c => match (elemT P t).bind (tI P), cX l, cX c with
    | some i, some l, some c => i.zero.map fun z => .mk m.md i.size i.bytes z l c
    | _, _, _ => none
  | .slice t x lo hi none =>
    match (match P.underlying t with | some .string => some (true, 1) | some (.slice e) => (tI P e).map (fun q => (false, q.size)) | _ => none), cX x,
      (match lo with | some l => (cX l).map some | none => some none), (match hi with | some h => (cX h).map some | none => some none) with
    | some (str, sz), some x, some lo, some hi => some (.slc str sz x lo hi)
    | _, _, _, _ => none
  | .call c => match c.callee, cXs c.args with
    | .builtin .len, some [x] => match (c.argTypes[0]?).bind P.underlying with
      | some (.slice _) => some (.len false x)
      | some .string => some (.len true x)
      | _ => none
    | .builtin .append, some [x, y] => match ((c.argTypes[0]?).bind (elemT P)).bind (tI P), (c.argTypes[1]?).bind P.underlying with
      | some i, some (.slice _) => if i.zok then some (.app m.md i.size i.bytes x y) else none
      | some i, some .string => if i.zok then some (.app m.md i.size i.bytes x y) else none
      | _, _ => none
    | .builtin .copy, some [x, y] => match ((c.argTypes[0]?).bind (elemT P)).bind (tI P) with
      | some i => some (.cpy i.size x y)
      | _ => none
    | .builtin .clear, some [x] => match ((c.argTypes[0]?).bind (elemT P)).bind (tI P) with
      | some i => if i.zok then i.zero.map fun z => .clr z x else none
      | _ => none
    | .builtin .max, some (x :: r) => some (.mm true x r)
    | .builtin .min, some (x :: r) => some (.mm false x r)
    | .value (.func f), some xs => match P.funcs[f]? with
      | some fn => if enterable P f then some (.call f (xs.zipIdx.map fun p => (p.1, m.byRef.contains p.2)) (fn.resultTypes.all (isScalar P))) else none
      | none => none
    | _, _ => none
  | _ => none

end Go.Am

/- The abstract machine: regions and code, compiled. -/
set_option linter.unusedVariables false
namespace Go.Am

/-- what a person notes for a function's regions: the slots that are live at its start, those whose objects are dropped there, marks at operations -/
structure RAnn where
  id : Nat
  live : List Nat
  drop : List Nat := []
  marks : List (Nat × Mk) := []

abbrev Ann := List RAnn

def annOf : Ann → Nat → Option RAnn
  | [], _ => none
  | r :: l, i => if r.id = i then some r else annOf l i

def mkOf : List (Nat × Mk) → Nat → Mk
  | [], _ => {}
  | (j, m) :: r, i => if j = i then m else mkOf r i

/-- how an operation touches the store: not at all, reading, writing -/
def AK.kind : AK → Nat
  | .ld .. | .b2s .. => 1
  | .mvNil .. | .box .. | .alc .. | .st .. | .app .. | .cpy .. | .clr .. | .call .. => 2
  | .bldS md _ _ => if md = .r then 0 else 2
  | .mk md _ _ _ _ _ => if md = .d then 0 else 2
  | _ => 0

def AX.slots : AX → List Nat
  | .t n => [n]
  | .c _ => []

def AX.slotsL : List AX → List Nat
  | [] => []
  | x :: r => x.slots ++ AX.slotsL r

/-- the slots that an operation looks at -/
def AK.slots : AK → List Nat
  | .mv x => x.slots
  | .mvNil _ _ => []
  | .pick c a b => c.slots ++ a.slots ++ b.slots
  | .nilChk x => x.slots
  | .bin _ _ x y => x.slots ++ y.slots
  | .un _ x => x.slots
  | .cvt _ x => x.slots
  | .b2s x => x.slots
  | .fAddr _ x => x.slots
  | .fld _ _ _ x => x.slots
  | .iAddr _ x i => x.slots ++ i.slots
  | .iAddrA _ _ x i => x.slots ++ i.slots
  | .idx _ _ _ x i => x.slots ++ i.slots
  | .idxS x i => x.slots ++ i.slots
  | .ext _ x => x.slots
  | .len _ x => x.slots
  | .mm _ x r => x.slots ++ AX.slotsL r
  | .bld _ ps => AX.slotsL (ps.map fun p => p.2.2)
  | .bldS _ _ xs => AX.slotsL xs
  | .box _ x => x.slots
  | .alc _ => []
  | .ld _ _ a => a.slots
  | .st _ a v => a.slots ++ v.slots
  | .mk _ _ _ _ l c => l.slots ++ c.slots
  | .slc _ _ x lo hi => x.slots ++ AX.slotsL lo.toList ++ AX.slotsL hi.toList
  | .app _ _ _ x y => x.slots ++ y.slots
  | .cpy _ x y => x.slots ++ y.slots
  | .clr _ x => x.slots
  | .call _ args _ => AX.slotsL (args.map (·.1))

def AO.seen (o : AO) : List Nat := o.k.slots ++ (match o.guard with | some (t, _) => [t] | none => [])

def slotClash (x y : AO) : Bool :=
  (match x.dst with | some d => y.seen.contains d || y.dst == some d | none => false) ||
  (match y.dst with | some d => x.seen.contains d | none => false)

def edges (o : Oper) : List Nat := o.after.toList.filterMap fun e => if Region.binds .any e then some e.on else none

def maskOf (acc : List Nat) : List Nat → Nat
  | [] => 0
  | e :: r => 2 ^ e ||| (acc.getD e 0) ||| maskOf acc r

def befs : List Oper → List Nat → List Nat
  | [], acc => acc
  | o :: r, acc => befs r (acc ++ [maskOf acc (edges o)])

def cOper (P : Program) (n : Nat) (ms : List (Nat × Mk)) (ops : List Oper) (i : Nat) (o : Oper) : Option (AK × Option (Nat × Bool)) :=
  match cOp P (mkOf ms i) o, (match o.guard with
    | none => some none
    | some (j, want) => match ops[j]?.bind (·.dst) with
      | some t => some (some (t, want))
      | none => none) with
  | some k, some g => if o.dst.all (· < n) then some (k, g) else none
  | _, _ => none

def pairsOf (ops : List Oper) (ks : List AK) (bs : List Nat) : Nat → List (Nat × Nat)
  | 0 => []
  | j + 1 => pairsOf ops ks bs j ++ ((List.range j).filterMap fun i =>
      if (bs.getD j 0).testBit i then none else
      match ks[i]?, ks[j]? with
      | some a, some b => if (a.kind == 2 && b.kind != 0) || (b.kind == 2 && a.kind != 0) then some (i, j) else none
      | _, _ => none)

def clashes (ops : List AO) (bs : List Nat) : Nat → Bool
  | 0 => false
  | j + 1 => clashes ops bs j || (List.range j).any fun i =>
      !(bs.getD j 0).testBit i && (match ops[i]?, ops[j]? with | some a, some b => slotClash a b | _, _ => false)

def edgesOk : Nat → List Oper → Bool
  | _, [] => true
  | i, o :: r => (edges o).all (fun e => decide (e < i)) && edgesOk (i + 1) r

def cOpers (P : Program) (n : Nat) (ms : List (Nat × Mk)) (ops : List Oper) : Nat → List Oper → Option (List (AK × Option (Nat × Bool)))
  | _, [] => some []
  | i, o :: r => match cOper P n ms ops i o, cOpers P n ms ops (i + 1) r with
    | some x, some l => some (x :: l)
    | _, _ => none

def aosOf (ps : List (Nat × Nat)) : Nat → List Oper → List (AK × Option (Nat × Bool)) → List AO
  | i, o :: r, (k, g) :: l => ⟨o.dst, k, g, ps.any fun p => p.1 == i || p.2 == i⟩ :: aosOf ps (i + 1) r l
  | _, _, _ => []

def cReg (P : Program) (n : Nat) (an : Ann) (id : Nat) (ops : Array Oper) (draw : Bool) : Option AReg :=
  match annOf an id, cOpers P n ((annOf an id).elim [] (·.marks)) ops.toList 0 ops.toList with
  | some r, some l =>
    if draw then
      let bs := befs ops.toList []
      let ps := pairsOf ops.toList (l.map (·.1)) bs ops.size
      if P.follows .mixedOrders && edgesOk 0 ops.toList && !clashes (aosOf ps 0 ops.toList l) bs ops.size then some ⟨r.live, r.drop, aosOf ps 0 ops.toList l, ps⟩ else none
    else some ⟨r.live, r.drop, aosOf [] 0 ops.toList l, []⟩
  | _, _ => none

def cCode (P : Program) (n : Nat) (an : Ann) : Code → Option AC
  | .skip => some .skip
  | .region id ops draw => (cReg P n an id ops draw).map .reg
  | .seq a b => match cCode P n an a, cCode P n an b with
    | some a, some b => some (.seq a b)
    | _, _ => none
  | .cond c a b => match cX c, cCode P n an a, cCode P n an b with
    | some x, some a, some b => some (.cond x a b)
    | _, _, _ => none
  | .block id c => (cCode P n an c).map (.block id)
  | .loop c => (cCode P n an c).map .loop
  | .exit id => some (.exit id)
  | .ret => some .ret
  | .label _ => some .skip
  | .scope c => cCode P n an c
  | _ => none

def cRes (rs : List ResultVar) : Option (List Nat) := allSome (rs.map fun | .tmp t => some t | _ => none)

/-- a function, compiled -/
def cFun (P : Program) (an : Ann) (keep : Bool) (f : FuncId) : Option AFun :=
  match P.funcs[f]? with
  | some fn => match fn.body with
    | some c => match cCode P fn.ntmps an c, cRes fn.results.toList with
      | some ac, some res => if fn.params.size ≤ fn.ntmps && res.all (· < fn.ntmps) && fn.nfree == 0 then some ⟨fn.params.size, res, keep, ac, none⟩ else none
      | _, _ => none
    | none => none
  | none => none

end Go.Am
