/- The abstract machine: regions and code, compiled. -/
import Derived.Test.YtpmlioigoiipaaaAmComp
set_option linter.unusedVariables false
namespace Go.Am

/-- what a person notes for a function's regions: the slots that are live at its start, those whose objects are dropped there, marks at operations -/
structure RAnn where
  id : Nat
  live : List Nat
  drop : List Nat := []
  marks : List (Nat × Mk) := []

abbrev Ann := List RAnn

def annOf : Ann → Nat → Option RAnn
  | [], _ => none
  | r :: l, i => if r.id = i then some r else annOf l i

def mkOf : List (Nat × Mk) → Nat → Mk
  | [], _ => {}
  | (j, m) :: r, i => if j = i then m else mkOf r i

/-- how an operation touches the store: not at all, reading, writing -/
def AK.kind : AK → Nat
  | .ld .. | .b2s .. => 1
  | .mvNil .. | .box .. | .alc .. | .st .. | .app .. | .cpy .. | .clr .. | .call .. => 2
  | .bldS md _ _ => if md = .r then 0 else 2
  | .mk md _ _ _ _ _ => if md = .d then 0 else 2
  | _ => 0

def AX.slots : AX → List Nat
  | .t n => [n]
  | .c _ => []

def AX.slotsL : List AX → List Nat
  | [] => []
  | x :: r => x.slots ++ AX.slotsL r

/-- the slots that an operation looks at -/
def AK.slots : AK → List Nat
  | .mv x => x.slots
  | .mvNil _ _ => []
  | .pick c a b => c.slots ++ a.slots ++ b.slots
  | .nilChk x => x.slots
  | .bin _ _ x y => x.slots ++ y.slots
  | .un _ x => x.slots
  | .cvt _ x => x.slots
  | .b2s x => x.slots
  | .fAddr _ x => x.slots
  | .fld _ _ _ x => x.slots
  | .iAddr _ x i => x.slots ++ i.slots
  | .iAddrA _ _ x i => x.slots ++ i.slots
  | .idx _ _ _ x i => x.slots ++ i.slots
  | .idxS x i => x.slots ++ i.slots
  | .ext _ x => x.slots
  | .len _ x => x.slots
  | .mm _ x r => x.slots ++ AX.slotsL r
  | .bld _ ps => AX.slotsL (ps.map fun p => p.2.2)
  | .bldS _ _ xs => AX.slotsL xs
  | .box _ x => x.slots
  | .alc _ => []
  | .ld _ _ a => a.slots
  | .st _ a v => a.slots ++ v.slots
  | .mk _ _ _ _ l c => l.slots ++ c.slots
  | .slc _ _ x lo hi => x.slots ++ AX.slotsL lo.toList ++ AX.slotsL hi.toList
  | .app _ _ _ x y => x.slots ++ y.slots
  | .cpy _ x y => x.slots ++ y.slots
  | .clr _ x => x.slots
  | .call _ args _ => AX.slotsL (args.map (·.1))

def AO.seen (o : AO) : List Nat := o.k.slots ++ (match o.guard with | some (t, _) => [t] | none => [])

def slotClash (x y : AO) : Bool :=
  (match x.dst with | some d => y.seen.contains d || y.dst == some d | none => false) ||
  (match y.dst with | some d => x.seen.contains d | none => false)

def edges (o : Oper) : List Nat := o.after.toList.filterMap fun e => if Region.binds .any e then some e.on else none

def maskOf (acc : List Nat) : List Nat → Nat
  | [] => 0
  | e :: r => 2 ^ e ||| (acc.getD e 0) ||| maskOf acc r

def befs : List Oper → List Nat → List Nat
  | [], acc => acc
  | o :: r, acc => befs r (acc ++ [maskOf acc (edges o)])

def cOper (P : Program) (n : Nat) (ms : List (Nat × Mk)) (ops : List Oper) (i : Nat) (o : Oper) : Option (AK × Option (Nat × Bool)) :=
  match cOp P (mkOf ms i) o, (match o.guard with
    | none => some none
    | some (j, want) => match ops[j]?.bind (·.dst) with
      | some t => some (some (t, want))
      | none => none) with
  | some k, some g => if o.dst.all (· < n) then some (k, g) else none
  | _, _ => none

def pairsOf (ops : List Oper) (ks : List AK) (bs : List Nat) : Nat → List (Nat × Nat)
  | 0 => []
  | j + 1 => pairsOf ops ks bs j ++ ((List.range j).filterMap fun i =>
      if (bs.getD j 0).testBit i then none else
      match ks[i]?, ks[j]? with
      | some a, some b => if (a.kind == 2 && b.kind != 0) || (b.kind == 2 && a.kind != 0) then some (i, j) else none
      | _, _ => none)

def clashes (ops : List AO) (bs : List Nat) : Nat → Bool
  | 0 => false
  | j + 1 => clashes ops bs j || (List.range j).any fun i =>
      !(bs.getD j 0).testBit i && (match ops[i]?, ops[j]? with | some a, some b => slotClash a b | _, _ => false)

def edgesOk : Nat → List Oper → Bool
  | _, [] => true
  | i, o :: r => (edges o).all (fun e => decide (e < i)) && edgesOk (i + 1) r

def cOpers (P : Program) (n : Nat) (ms : List (Nat × Mk)) (ops : List Oper) : Nat → List Oper → Option (List (AK × Option (Nat × Bool)))
  | _, [] => some []
  | i, o :: r => match cOper P n ms ops i o, cOpers P n ms ops (i + 1) r with
    | some x, some l => some (x :: l)
    | _, _ => none

def aosOf (ps : List (Nat × Nat)) : Nat → List Oper → List (AK × Option (Nat × Bool)) → List AO
  | i, o :: r, (k, g) :: l => ⟨o.dst, k, g, ps.any fun p => p.1 == i || p.2 == i⟩ :: aosOf ps (i + 1) r l
  | _, _, _ => []

def cReg (P : Program) (n : Nat) (an : Ann) (id : Nat) (ops : Array Oper) (draw : Bool) : Option AReg :=
  match annOf an id, cOpers P n ((annOf an id).elim [] (·.marks)) ops.toList 0 ops.toList with
  | some r, some l =>
    if draw then
      let bs := befs ops.toList []
      let ps := pairsOf ops.toList (l.map (·.1)) bs ops.size
      if P.follows .mixedOrders && edgesOk 0 ops.toList && !clashes (aosOf ps 0 ops.toList l) bs ops.size then some ⟨r.live, r.drop, aosOf ps 0 ops.toList l, ps⟩ else none
    else some ⟨r.live, r.drop, aosOf [] 0 ops.toList l, []⟩
  | _, _ => none

def cCode (P : Program) (n : Nat) (an : Ann) : Code → Option AC
  | .skip => some .skip
  | .region id ops draw => (cReg P n an id ops draw).map .reg
  | .seq a b => match cCode P n an a, cCode P n an b with
    | some a, some b => some (.seq a b)
    | _, _ => none
  | .cond c a b => match cX c, cCode P n an a, cCode P n an b with
    | some x, some a, some b => some (.cond x a b)
    | _, _, _ => none
  | .block id c => (cCode P n an c).map (.block id)
  | .loop c => (cCode P n an c).map .loop
  | .exit id => some (.exit id)
  | .ret => some .ret
  | .label _ => some .skip
  | .scope c => cCode P n an c
  | _ => none

def cRes (rs : List ResultVar) : Option (List Nat) := allSome (rs.map fun | .tmp t => some t | _ => none)

/-- a function, compiled -/
def cFun (P : Program) (an : Ann) (keep : Bool) (f : FuncId) : Option AFun :=
  match P.funcs[f]? with
  | some fn => match fn.body with
    | some c => match cCode P fn.ntmps an c, cRes fn.results.toList with
      | some ac, some res => if fn.params.size ≤ fn.ntmps && res.all (· < fn.ntmps) && fn.nfree == 0 then some ⟨fn.params.size, res, keep, ac, none⟩ else none
      | _, _ => none
    | none => none
  | none => none

end Go.Am
