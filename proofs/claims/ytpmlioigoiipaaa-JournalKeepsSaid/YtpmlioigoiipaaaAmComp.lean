/- The abstract machine: from the code of the model to the compact code. -/
import Derived.Test.YtpmlioigoiipaaaAmDefs
set_option linter.unusedVariables false
namespace Go.Am

/-- a constant -/
def cst : Value → Option AVal
  | .int k n => some (.dat (.int k n))
  | .bool b => some (.dat (.bool b))
  | .string s => some (.dat (.str s.data.toList))
  | .slice none 0 0 => some .nils
  | .pointer none => some .nilp
  | _ => none

def cstCells (v : Value) : Option (List AVal) := allSome (v.cells.toList.map cst)

def cX : Operand → Option AX
  | .tmp t => some (.t t)
  | .const v => match v with
    | .agg cs => (allSome (cs.toList.map cst)).map fun l => .c (.agg l)
    | v => (cst v).map .c
  | .func f => some (.c (.fn f []))
  | .global _ => none

def cXs (xs : Array Operand) : Option (List AX) := allSome (xs.toList.map cX)

structure TI where
  size : Nat
  bytes : Nat
  agg : Bool
  zero : Option (List AVal)

def tI (P : Program) (t : TypeId) : Option TI :=
  match P.info? t, P.underlying t with
  | some i, some d => some ⟨i.size, i.bytes, match d with | .struct _ | .array _ _ => true | _ => false, i.zero.bind cstCells⟩
  | _, _ => none

/-- a type whose zero value is known, cell by cell -/
def TI.zok (q : TI) : Bool :=
  match q.zero with
  | some l => l.length == q.size && decide (1 ≤ q.size)
  | none => false

/-- a struct type whose fields' types are all known -/
def structOk (P : Program) (t : TypeId) : Bool :=
  match P.underlying t with
  | some (.struct fs) => fs.toList.all fun fd => (tI P fd.type).isSome
  | _ => false

def elemT (P : Program) (t : TypeId) : Option TypeId :=
  match P.underlying t with
  | some (.slice e) => some e
  | _ => none

/-- the field's place: its offset, its size, whether it is a struct or an array -/
def fieldT (P : Program) (t : TypeId) (f : Nat) : Option (Nat × TI) :=
  match P.underlying t with
  | some (.struct fs) => match fs[f]? with
    | some fd => (tI P fd.type).map fun i => (fd.offset, i)
    | none => none
  | _ => none

def bkOf (P : Program) (t : TypeId) : Option BK :=
  match P.underlying t with
  | some (.int _) => some .int
  | some .bool => some .bool
  | some .string => some .str
  | some (.pointer _) => some .ptr
  | some (.slice _) => some .slc
  | _ => none

def isScalar (P : Program) (t : TypeId) : Bool :=
  match P.underlying t with
  | some (.int _) | some .bool | some .string => true
  | _ => false

def enterable (P : Program) (f : FuncId) : Bool :=
  match P.funcs[f]? with
  | some fn => fn.name != "runtime.NumGoroutine" && fn.body.isSome
  | none => false

def partsOf (P : Program) (t : TypeId) (parts : List (Nat × Operand)) : Option (List (Nat × Nat × AX)) :=
  allSome (parts.map fun p => match fieldT P t p.1, cX p.2 with
    | some (off, i), some x => some (off, i.size, x)
    | _, _ => none)

/-- the marks that a person sets at an operation: how a slice is held, which arguments go by reference -/
structure Mk where
  md : Md := .d
  byRef : List Nat := []

def cOp (P : Program) (m : Mk) (o : Oper) : Option AK :=
  match o.op with
  | .move x | .assign x =>
    if m.md = .d then (cX x).map .mv else
    match x with
    | .const (.slice none 0 0) => match (elemT P o.type).bind (tI P) with
      | some i => if 1 ≤ i.size then some (.mvNil m.md i.size) else none
      | none => none
    | _ => none
  | .pick c a b => match cX c, cX a, cX b with
    | some c, some a, some b => some (.pick c a b)
    | _, _, _ => none
  | .nilCheck x => (cX x).map .nilChk
  | .binOp op t x y _ => match bkOf P t, cX x, cX y with
    | some bk, some x, some y => some (.bin bk op x y)
    | _, _, _ => none
  | .unOp op _ x => (cX x).map (.un op)
  | .convert s d x => match P.underlying s, P.underlying d, cX x with
    | some (.int _), some (.int k), some x => some (.cvt k x)
    | some (.slice e), some .string, some x => match P.underlying e, tI P e with
      | some (.int .u8), some i => if i.size = 1 then some (.b2s x) else none
      | _, _ => none
    | _, _, _ => none
  | .fieldAddr t x f => match fieldT P t f, cX x with
    | some (off, i), some x => if i.size = 0 then none else some (.fAddr off x)
    | _, _ => none
  | .field t x f => match fieldT P t f, cX x with
    | some (off, i), some x => if 1 ≤ i.size then some (.fld off i.size i.agg x) else none
    | _, _ => none
  | .indexAddr t x i => match P.underlying t, cX x, cX i with
    | some (.slice e), some x, some i => (tI P e).map fun q => .iAddr q.size x i
    | some (.array n e), some x, some i => (tI P e).map fun q => .iAddrA n q.size x i
    | _, _, _ => none
  | .index t x i => match P.underlying t, cX x, cX i with
    | some (.array n e), some x, some i => match tI P e with
      | some q => if 1 ≤ q.size then some (.idx n q.size q.agg x i) else none
      | none => none
    | some .string, some x, some i => some (.idxS x i)
    | _, _, _ => none
  | .extract x i => (cX x).map (.ext i)
  | .load t a => match tI P t, cX a with
    | some i, some a => if 1 ≤ i.size then some (.ld i.size i.agg a) else none
    | _, _ => none
  | .store t a v => match tI P t, cX a, cX v with
    | some i, some a, some v => if 1 ≤ i.size then some (.st i.size a v) else none
    | _, _, _ => none
  | .box t x => match tI P t, cX x with
    | some i, some x => some (.box i.size x)
    | _, _ => none
  | .alloc t => match tI P t with
    | some i => i.zero.map .alc
    | none => none
  | .build t parts => match tI P t, partsOf P t parts.toList with
    | some i, some ps => if structOk P t then i.zero.map fun z => .bld z ps else none
    | _, _ => none
  | .buildSlice t len parts => match (elemT P t).bind (tI P), cXs (parts.map (·.2)) with
    | some i, some xs => if parts.toList.map (·.1) = List.range len ∧ len * i.size ≤ 1048576 ∧ 1 ≤ i.size ∧ i.zero.isSome then some (.bldS m.md i.size xs) else none
    | _, _ => none
  | .makeSlice t l c => match (elemT P t).bind (tI P), cX l, cX c with
    | some i, some l, some c => i.zero.map fun z => .mk m.md i.size i.bytes z l c
    | _, _, _ => none
  | .slice t x lo hi none =>
    match (match P.underlying t with | some .string => some (true, 1) | some (.slice e) => (tI P e).map (fun q => (false, q.size)) | _ => none), cX x,
      (match lo with | some l => (cX l).map some | none => some none), (match hi with | some h => (cX h).map some | none => some none) with
    | some (str, sz), some x, some lo, some hi => some (.slc str sz x lo hi)
    | _, _, _, _ => none
  | .call c => match c.callee, cXs c.args with
    | .builtin .len, some [x] => match (c.argTypes[0]?).bind P.underlying with
      | some (.slice _) => some (.len false x)
      | some .string => some (.len true x)
      | _ => none
    | .builtin .append, some [x, y] => match ((c.argTypes[0]?).bind (elemT P)).bind (tI P), (c.argTypes[1]?).bind P.underlying with
      | some i, some (.slice _) => if i.zok then some (.app m.md i.size i.bytes x y) else none
      | some i, some .string => if i.zok then some (.app m.md i.size i.bytes x y) else none
      | _, _ => none
    | .builtin .copy, some [x, y] => match ((c.argTypes[0]?).bind (elemT P)).bind (tI P) with
      | some i => some (.cpy i.size x y)
      | _ => none
    | .builtin .clear, some [x] => match ((c.argTypes[0]?).bind (elemT P)).bind (tI P) with
      | some i => if i.zok then i.zero.map fun z => .clr z x else none
      | _ => none
    | .builtin .max, some (x :: r) => some (.mm true x r)
    | .builtin .min, some (x :: r) => some (.mm false x r)
    | .value (.func f), some xs => match P.funcs[f]? with
      | some fn => if enterable P f then some (.call f (xs.zipIdx.map fun p => (p.1, m.byRef.contains p.2)) (fn.resultTypes.all (isScalar P))) else none
      | none => none
    | _, _ => none
  | _ => none

end Go.Am
