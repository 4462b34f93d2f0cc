/- Parts of the proofs of the statement, joined and made short: AmTree AmRep AmInv AmOps AmMem AmMake. -/
import Derived.Test.YtgaeajfoiigbkaaGreatDoorP1
import Derived.Laws.World
import Derived.Laws.Sem
import Derived.Laws.IdiomCopy
import Derived.ChangeFn
import Derived.OrdersIn
import Derived.LoopNIn
import Derived.RangeFuncRecord
import Derived.Laws.StructEq
import Derived.ChangeKeysEq
import Derived.Laws.Cells
import Derived.Laws.Append
import Derived.Laws.Strings
import Derived.Laws.AppendOwn
set_option linter.unusedVariables false
set_option linter.unusedSimpArgs false
set_option linter.unusedSectionVars false
namespace Go.Am
inductive Cell where
 | nil
 | d (l : List Dat)
 | own (fresh fz : Bool) (sz : Nat) (l : List Dat)
 deriving Inhabited
inductive TObj where
 | plain (o : Obj)
 | fam (ver pv : Nat) (fz : Bool) (cells : List Cell)
 | mapf (pv : Nat) (es : List (Dat × Cell))
 deriving Inhabited
abbrev TLook:=RId → Option TObj
abbrev zgb7:=List (RId × TObj)
abbrev TOut:=AVal × List (RId × TObj)
abbrev Orc:=FuncId → List AVal → List TObj → Option (AVal × List TObj)
def Cell.dat : Cell → Dat
 | .nil => .sl []
 | .d l => .sl l
 | .own _ _ _ l => .sl l
def Cell.fresh : Cell → Bool
 | .nil => true
 | .d _ => true
 | .own f _ _ _ => f
def Cell.freeze : Cell → Cell
 | .nil => .nil
 | .d l => .d l
 | .own f _ sz l => .own f true sz l
def Cell.isOwn : Cell → Bool
 | .nil => false
 | .d _ => false
 | .own _ _ _ _ => true
def cellA (r : RId) (pv i : Nat) : Cell → AVal
 | .nil => .nils
 | .d l => .dat (.sl l)
 | .own true _ sz l => .rsl (r,i + 1,0) pv sz 0 l.length
 | .own false _ _ _ => .junk
def rowsA (r : RId) (pv : Nat) : Nat → List Cell → List (List AVal)
 | _,[] => []
 | i,c :: cs => [cellA r pv i c] :: rowsA r pv (i + 1) cs
def entsA (r : RId) (pv : Nat) : Nat → List (Dat × Cell) → List (Dat × AVal)
 | _,[] => []
 | i,e :: es => (e.1,cellA r pv i e.2) :: entsA r pv (i + 1) es
def kidO (pv : Nat) : Option Cell → Obj
 | some (.own _ fz sz l) => .arr sz pv fz l
 | _ => .arr 1 pv true []
def flatR (r : RId) (i j : Nat) : TObj → Option Obj
 | .plain o => if i = 0 ∧ j = 0 then some o else none
 | .fam ver pv fz cells =>
  if j = 0 then
   match i with
   | 0 => some (if fz then .arr 1 ver true (cells.map Cell.dat) else .rarr 1 ver (rowsA r pv 0 cells))
   | i + 1 => some (kidO pv cells[i]?)
  else none
 | .mapf pv es =>
  if j = 0 then
   match i with
   | 0 => some (.blk (.map (entsA r pv 0 es)))
   | i + 1 => some (kidO pv (es[i]?.map (·.2)))
  else none
def flat (T : TLook) : Look:=fun id =>
 match T id.1 with
 | some o => flatR id.1 id.2.1 id.2.2 o
 | none => none
def gT : zgb7 → RId → Option TObj
 | [],_ => none
 | (i',o) :: r,i => if i' = i then some o else gT r i
def pT : zgb7 → RId → TObj → zgb7
 | [],i,o => [(i,o)]
 | (i',o') :: r,i,o => if i' = i then (i,o) :: r else (i',o') :: pT r i o
def pTs (s : zgb7) : List (RId × TObj) → zgb7
 | [] => s
 | (i,o) :: r => pTs (pT s i o) r
def updT (T : TLook) : List (RId × TObj) → TLook
 | [] => T
 | (i,o) :: r => updT (fun j => if i = j then some o else T j) r
def AVal.rids (v : AVal) : List RId:=v.ids.map (·.1)
def AVal.ridsL (l : List AVal) : List RId:=(AVal.idsL l).map (·.1)
def TObj.rids : TObj → List RId
 | .plain o => o.ids.map (·.1)
 | .fam _ _ _ _ => []
 | .mapf _ _ => []
def liftF (f : RId → RId) : Id → Id:=fun i => (f i.1,i.2)
def AVal.tren (f : RId → RId) (v : AVal) : AVal:=v.ren (liftF f)
def AVal.trenL (f : RId → RId) (l : List AVal) : List AVal:=AVal.renL (liftF f) l
def TObj.tren (f : RId → RId) : TObj → TObj
 | .plain o => .plain (o.ren (liftF f))
 | .fam ver pv fz cells => .fam ver pv fz cells
 | .mapf pv es => .mapf pv es
def collect (T : TLook) : Nat → List RId → List RId → Option (List RId)
 | 0,_,_ => none
 | _ + 1,[],done => some done
 | n + 1,id :: todo,done =>
  if id ∈ done then collect T n todo done else
   match T id with
   | none => none
   | some o => collect T n (todo ++ o.rids) (done ++ [id])
def zac7 : List RId → RId → Nat
 | [],_ => 0
 | i' :: r,i => if i' = i then 0 else zac7 r i + 1
def toPos (order : List RId) (i : RId) : RId:=(0,zac7 order i)
def zcb7 (order : List RId) (site : Nat) (i : RId) : RId :=
 match order[i.2]? with
 | some j => j
 | none => (site + 1,i.2 - order.length)
def gather (T : TLook) : List RId → Option (List TObj)
 | [] => some []
 | id :: r =>
  match T id,gather T r with
  | some o,some os => some (o :: os)
  | _,_ => none
def decT (T : TLook) : AVal → Option (Dat × List (RId × TObj))
 | .dat d => some (d,[])
 | .nils => some (.sl [],[])
 | .emp _ => some (.sl [],[])
 | .cap0 => some (.sl [],[])
 | .fsl l => some (.sl l,[])
 | .rsl (r,i,j) ver sz off len =>
  match T r with
  | some (.plain (.arr sz' ver' fz es)) =>
   if i = 0 ∧ j = 0 ∧ ver = ver' ∧ sz = sz' ∧ off + len ≤ es.length then some (.sl ((es.drop off).take len),if fz then [] else [(r,.plain (.arr sz' ver' true es))]) else none
  | some (.fam ver' pv fz cells) =>
   if j = 0 then
    match i with
    | 0 => if ver = ver' ∧ sz = 1 ∧ off + len ≤ cells.length ∧ cells.all Cell.fresh = true then some (.sl (((cells.map Cell.dat).drop off).take len),if fz then [] else [(r,.fam ver' pv true (cells.map Cell.freeze))]) else none
    | i + 1 => match cells[i]? with
     | some (.own fr fz' sz' l) => if ver = pv ∧ sz = sz' ∧ off + len ≤ l.length ∧ fz = false then some (.sl ((l.drop off).take len),if fz' then [] else [(r,.fam ver' pv fz (cells.set i (.own fr true sz' l)))]) else none
     | _ => none
   else none
  | _ => none
 | _ => none
def decLsT (T : TLook) : List AVal → Option (List Dat × List (RId × TObj))
 | [] => some ([],[])
 | v :: r =>
  match decT T v with
  | none => none
  | some (d,us) =>
   match decLsT (updT T us) r with
   | none => none
   | some (ds,us') => if d.isAgg then none else some (d :: ds,us ++ us')
def decV (T : TLook) : AVal → Option (Dat × List (RId × TObj))
 | .agg l => match decLsT T l with
  | some (ds,us) => some (.agg ds,us)
  | none => none
 | v => decT T v
def argsT (T : TLook) : List (AVal × Bool) → Option (List AVal × List (RId × TObj))
 | [] => some ([],[])
 | (v,true) :: r =>
  match argsT T r with
  | none => none
  | some (vs,us) => some (v :: vs,us)
 | (v,false) :: r =>
  match decV T v with
  | none => none
  | some (d,us) =>
   match argsT (updT T us) r with
   | none => none
   | some (vs,us') => some (.dat d :: vs,us ++ us')
def lift1 (T : TLook) (id : Id) (o : Obj) : Option (RId × TObj) :=
 match T id.1 with
 | some (.fam ver pv fz cells) =>
  match id.2,o with
  | (i + 1,0),.arr sz ver' fz' l =>
   match cells[i]? with
   | some (.own fr _ sz' l') => if fz = false ∧ ver' = pv ∧ sz = sz' ∧ l.length = l'.length then some (id.1,.fam ver pv fz (cells.set i (.own fr fz' sz l))) else none
   | _ => none
  | _,_ => none
 | some (.mapf _ _) => none
 | _ => if id.2 = (0,0) then some (id.1,.plain o) else none
def liftX (T : TLook) : List (Id × Obj) → Option (List (RId × TObj))
 | [] => some []
 | (id,o) :: r =>
  match lift1 T id o with
  | none => none
  | some u =>
   match liftX (updT T [u]) r with
   | none => none
   | some us => some (u :: us)
def grown (T : TLook) (id : Id) (o : Obj) : Option (RId × TObj) :=
 match id.2,o,T id.1 with
 | (i + 1,0),.arr sz ver' fz' l,some (.fam ver pv false cells) =>
  match cells[i]? with
  | some (.own _ _ sz' _) => if ver' = pv + 1 ∧ sz = sz' then some (id.1,.fam ver (pv + 1) false (cells.set i (.own false fz' sz l))) else none
  | _ => none
 | (i + 1,0),.arr sz ver' fz' l,some (.mapf pv es) =>
  match es[i]? with
  | some (kd,.own _ _ sz' _) => if ver' = pv + 1 ∧ sz = sz' then some (id.1,.mapf (pv + 1) (es.set i (kd,.own false fz' sz l))) else none
  | _ => none
 | _,_,_ => none
def lift (T : TLook) (upd : List (Id × Obj)) : Option (List (RId × TObj)) :=
 match upd with
 | [] => some []
 | (id,o) :: [] => match grown T id o with
  | some u => some [u]
  | none => liftX T [(id,o)]
 | upd => liftX T upd
def cellIn (T : TLook) (r : RId) (pv : Nat) (old : Option Cell) (i : Nat) (mv : Bool) (v : AVal) : Option (Cell × Bool × List (RId × TObj)) :=
 match v with
 | .rsl (r2,i2,j2) ver sz off len =>
  if r2 = r then
   if i2 = i + 1 ∧ j2 = 0 ∧ ver = pv ∧ off = 0 then
    match old with
    | some (.own _ fz sz' l) => if sz = sz' ∧ len = l.length then some (.own true fz sz l,false,[]) else none
    | _ => none
   else none
  else if mv then
   match T r2 with
   | some (.plain (.arr sz' ver' false l)) =>
    if i2 = 0 ∧ j2 = 0 ∧ off = 0 ∧ ver = ver' ∧ sz = sz' ∧ len = l.length then some (.own true false sz l,true,[(r2,.plain (.arr sz (ver + 1) true []))]) else none
   | _ => none
  else data
 | _ => data
 where
 data : Option (Cell × Bool × List (RId × TObj)) :=
  match decT T v with
  | some (.sl l,us) => if us.any (fun u => u.1 == r) then none else some (.d l,(match old with | some (.own _ _ _ _) => true | _ => false),us)
  | _ => none
def pvN (T : TLook) (r : RId) : Nat :=
 match T r with
 | some (.fam _ pv _ _) => pv + 1
 | some (.mapf pv _) => pv + 1
 | _ => 0
def stF (T : TLook) (mv : Bool) (r : RId) (ver pv i : Nat) (cells : List Cell) (v : AVal) : Option TOut :=
 match cells[i]? with
 | none => none
 | some old =>
  match cellIn T r pv (some old) i mv v with
  | none => none
  | some (c,b,us) => some (.tup [],us ++ [(r,.fam ver (if b then pv + 1 else pv) false (cells.set i c))])
def mupF (T : TLook) (ag : Bool) (sh : List Sh) (r : RId) (pv : Nat) (es : List (Dat × Cell)) (k v : AVal) : Option TOut :=
 match keyE ag sh k with
 | none => none
 | some kd =>
  match findE ag sh kd es with
  | some (some i) =>
   match es[i]? with
   | none => none
   | some old =>
    match cellIn T r pv (some old.2) i true v with
    | none => none
    | some (c,b,us) => some (.tup [],us ++ [(r,.mapf (if b then pv + 1 else pv) (es.set i (kd,c)))])
  | some none =>
   match cellIn T r pv none es.length true v with
   | none => none
   | some (c,b,us) => some (.tup [],us ++ [(r,.mapf (if b then pv + 1 else pv) (es ++ [(kd,c)]))])
  | none => none
def appF (site bytes : Nat) (x y : AVal) (T : TLook) : Option TOut :=
 match y with
 | .lits 1 1 [w] =>
  match x with
  | .rsl (r,0,0) ver 1 0 len =>
   match T r with
   | some (.fam ver' pv false cells) =>
    if ver = ver' ∧ len = cells.length ∧ (len + 1) * (bytes + 1) ≤ room then
     match cellIn T r pv none cells.length true w with
     | some (c,_,us) => some (.rsl (r,0,0) (ver + 1) 1 0 (len + 1),us ++ [(r,.fam (ver + 1) (pv + 1) false (cells ++ [c]))])
     | none => none
    else none
   | _ => none
  | .nils =>
   match zhb7 (flat T) (nid site) with
   | some nv =>
    if bytes + 1 ≤ room then
     match cellIn T (site + 1,0) (pvN T (site + 1,0)) none 0 true w with
     | some (c,_,us) => some (.rsl (nid site) nv 1 0 1,us ++ [((site + 1,0),.fam nv (pvN T (site + 1,0)) false [c])])
     | none => none
    else none
   | none => none
  | .cap0 =>
   match zhb7 (flat T) (nid site) with
   | some nv =>
    if bytes + 1 ≤ room then
     match cellIn T (site + 1,0) (pvN T (site + 1,0)) none 0 true w with
     | some (c,_,us) => some (.rsl (nid site) nv 1 0 1,us ++ [((site + 1,0),.fam nv (pvN T (site + 1,0)) false [c])])
     | none => none
    else none
   | none => none
  | _ => none
 | _ => none
def callE (K : Orc) (site : Nat) (f : FuncId) (args : List (AVal × Bool)) (scalar : Bool) (T : TLook) : Option TOut :=
 match argsT T args with
 | none => none
 | some (vs,us) =>
  match collect (updT T us) 64 (AVal.ridsL vs) [] with
  | none => none
  | some order =>
   match gather (updT T us) order with
   | none => none
   | some os =>
    match K f (AVal.trenL (toPos order) vs) (os.map (TObj.tren (toPos order))) with
    | none => none
    | some (v,os') =>
     if scalar && order.isEmpty then (if os'.isEmpty && scalV v then some (v,[]) else none) else
     if os'.length < order.length then none else
     if (List.range (os'.length - order.length)).any (fun j => (updT T us (site + 1,j)).isSome) then none else
     some (v.tren (zcb7 order site),
      us ++ (((List.range os'.length).map fun j => zcb7 order site (0,j)).zip (os'.map (TObj.tren (zcb7 order site)))))
def flatE (site : Nat) (k : AK) (g : Nat → AVal) (T : TLook) : Option TOut :=
 match opE site k g (flat T) with
 | none => none
 | some (v,upd) =>
  match lift T upd with
  | none => none
  | some us => some (v,us)
def YID : FuncId:=1000000000
def opT (K : Orc) (site : Nat) (k : AK) (g : Nat → AVal) (T : TLook) : Option TOut :=
 match k with
 | .call f args scalar => callE K site f (args.map fun p => (evX g p.1,p.2)) scalar T
 | .callV x args scalar =>
  match evX g x with
  | .fn f caps => if BIGF ≤ f then (if f - BIGF = YID then none else callE K site (f - BIGF) ((caps.map fun v => (v,true)) ++ args.map fun p => (evX g p.1,p.2)) scalar T) else if f = YID then none else callE K site f ((args.map fun p => (evX g p.1,p.2)) ++ caps.map fun v => (v,true)) scalar T
  | .bref true id => callE K site YID ((args.map fun p => (evX g p.1,p.2)) ++ [(.bref true id,true)]) false T
  | _ => none
 | .mvNil .f sz =>
  match opE site (.mvNil .r sz) g (flat T) with
  | some (.rsl _ nv _ _ _,_) => if sz = 1 then some (.rsl (nid site) nv 1 0 0,[((site + 1,0),.fam nv (pvN T (site + 1,0)) false [])]) else none
  | _ => none
 | .mk .f sz bytes [.nils] l c =>
  match opE site (.mk .r sz bytes [.nils] l c) g (flat T) with
  | some (.rsl _ nv _ _ len,_) => if sz = 1 then some (.rsl (nid site) nv 1 0 len,[((site + 1,0),.fam nv (pvN T (site + 1,0)) false (List.replicate len .nil))]) else none
  | _ => none
 | .app .f 1 bytes x y => appF site bytes (evX g x) (evX g y) T
 | .mkMap true =>
  match opE site (.mkMap true) g (flat T) with
  | some (v,_) => some (v,[((site + 1,0),.mapf 0 [])])
  | none => none
 | .mup ag sh m k v =>
  match evX g m with
  | .bref false (r,0,0) =>
   match T r with
   | some (.mapf pv es) => mupF T ag sh r pv es (evX g k) (evX g v)
   | _ => flatE site (.mup ag sh m k v) g T
  | _ => flatE site (.mup ag sh m k v) g T
 | .st mv n a v =>
  match evX g a with
  | .eref (r,0,0) ver i 0 =>
   match T r with
   | some (.fam ver' pv false cells) => if n = 1 ∧ ver = ver' then stF T mv r ver pv i cells (evX g v) else none
   | _ => flatE site (.st mv n a v) g T
  | _ => flatE site (.st mv n a v) g T
 | k => flatE site k g T
def touch (k : AK) (g : Nat → AVal) : List Id :=
 match k with
 | .b2s x => (evX g x).ids
 | .bldS _ _ xs => AVal.idsL (xs.map (evX g))
 | .ld _ _ a => (evX g a).ids
 | .st _ _ a v => (evX g a).ids ++ (evX g v).ids
 | .app _ _ _ x y => (evX g x).ids ++ (evX g y).ids
 | .cpy _ x y => (evX g x).ids ++ (evX g y).ids
 | .clr _ x => (evX g x).ids
 | .slc3 _ x _ _ _ => (evX g x).ids
 | .lkp _ _ _ _ m _ => (evX g m).ids
 | .mup _ _ m _ v => (evX g m).ids ++ (evX g v).ids
 | .lenM m => (evX g m).ids
 | _ => []
def touchC (args : List (AVal × Bool)) (T : TLook) : List RId :=
 AVal.ridsL (args.map (·.1)) ++
  (match argsT T args with
   | some (vs,us) => (collect (updT T us) 64 (AVal.ridsL vs) []).getD []
   | none => [])
def zce7 (k : AK) (g : Nat → AVal) (T : TLook) : List RId :=
 match k with
 | .call _ args _ => touchC (args.map fun p => (evX g p.1,p.2)) T
 | .callV x args _ =>
  match evX g x with
  | .fn f caps => if BIGF ≤ f then touchC ((caps.map fun v => (v,true)) ++ args.map fun p => (evX g p.1,p.2)) T else touchC ((args.map fun p => (evX g p.1,p.2)) ++ caps.map fun v => (v,true)) T
  | .bref true id => touchC ((args.map fun p => (evX g p.1,p.2)) ++ [(.bref true id,true)]) T
  | _ => []
 | k => (touch k g).map (·.1)
structure St where
 env : Env
 objs : zgb7
def aoE (K : Orc) (o : AO) (g : Nat → AVal) (T : TLook) : Option TOut :=
 match o.guard with
 | none => opT K (o.dst.getD 0) o.k g T
 | some (t,want) =>
  match g t with
  | .dat (.bool b) => if b = want then opT K (o.dst.getD 0) o.k g T else some (.tup [],[])
  | .tup [] => some (.tup [],[])
  | _ => none
def putE (env : Env) : Option Nat → AVal → Env
 | some d,v => (d,v) :: env
 | none,_ => env
mutual
def Dat.eqv : Dat → Dat → Bool
 | .int k n,d => (match d with | .int k' n' => decide (k = k') && decide (n = n') | _ => false)
 | .bool a,d => (match d with | .bool b => decide (a = b) | _ => false)
 | .str a,d => (match d with | .str b => decide (a = b) | _ => false)
 | .sl a,d => (match d with | .sl b => Dat.eqvL a b | _ => false)
 | .agg a,d => (match d with | .agg b => Dat.eqvL a b | _ => false)
def Dat.eqvL : List Dat → List Dat → Bool
 | [],l => l.isEmpty
 | a :: r,l => (match l with | b :: s => Dat.eqv a b && Dat.eqvL r s | [] => false)
end
mutual
theorem Dat.eqv_eq : ∀ (a b : Dat),Dat.eqv a b = true → a = b
 | .int k n,b,h => by cases b <;> simp_all [Dat.eqv]
 | .bool a,b,h => by cases b <;> simp_all [Dat.eqv]
 | .str a,b,h => by cases b <;> simp_all [Dat.eqv]
 | .sl a,b,h => by
  cases b <;> simp only [Dat.eqv,Bool.false_eq_true] at h
  rw [Dat.eqvL_eq a _ h]
 | .agg a,b,h => by
  cases b <;> simp only [Dat.eqv,Bool.false_eq_true] at h
  rw [Dat.eqvL_eq a _ h]
theorem Dat.eqvL_eq : ∀ (a b : List Dat),Dat.eqvL a b = true → a = b
 | [],b,h => by cases b <;> simp_all [Dat.eqvL]
 | a :: r,b,h => by
  cases b with
  | nil => simp [Dat.eqvL] at h
  | cons b s =>
   simp only [Dat.eqvL,Bool.and_eq_true] at h
   rw [Dat.eqv_eq a b h.1,Dat.eqvL_eq r s h.2]
end
def AVal.same : AVal → AVal → Bool
 | .dat a,.dat b => Dat.eqv a b
 | .nils,.nils => true
 | .emp a,.emp b => decide (a = b)
 | .nilp,.nilp => true
 | .ref i a,.ref j b => decide (i = j) && decide (a = b)
 | .eref i a b c,.eref j x y z => decide (i = j) && decide (a = x) && decide (b = y) && decide (c = z)
 | .rsl i a b c d,.rsl j x y z w => decide (i = j) && decide (a = x) && decide (b = y) && decide (c = z) && decide (d = w)
 | .fp a,.fp b => Dat.eqvL a b
 | .bref a i,.bref b j => decide (a = b) && decide (i = j)
 | _,_ => false
theorem AVal.same_eq (a b : AVal) (h : AVal.same a b = true) : a = b:=by
 unfold AVal.same at h
 split at h <;> simp_all <;> first | exact Dat.eqv_eq _ _ h | exact Dat.eqvL_eq _ _ h
def sameAll {α : Type} (f : α → α → Bool) : List α → List α → Bool
 | [],l => l.isEmpty
 | a :: r,l => (match l with | b :: s => f a b && sameAll f r s | [] => false)
theorem sameAll_eq {α : Type} {f : α → α → Bool} (hf : ∀ a b,f a b = true → a = b) : ∀ (a b : List α),sameAll f a b = true → a = b
 | [],b,h => by cases b <;> simp_all [sameAll]
 | a :: r,b,h => by
  cases b with
  | nil => simp [sameAll] at h
  | cons b s =>
   simp only [sameAll,Bool.and_eq_true] at h
   rw [hf a b h.1,sameAll_eq hf r s h.2]
def sameE (a b : Dat × AVal) : Bool:=Dat.eqv a.1 b.1 && AVal.same a.2 b.2
theorem sameE_eq (a b : Dat × AVal) (h : sameE a b = true) : a = b:=by
 simp only [sameE,Bool.and_eq_true] at h
 exact Prod.ext (Dat.eqv_eq _ _ h.1) (AVal.same_eq _ _ h.2)
def Obj.same : Obj → Obj → Bool
 | .box a,.box b => sameAll AVal.same a b
 | .arr a b c l,.arr x y z m => decide (a = x) && decide (b = y) && decide (c = z) && Dat.eqvL l m
 | .rarr a b l,.rarr x y m => decide (a = x) && decide (b = y) && sameAll (sameAll AVal.same) l m
 | .blk (.map a),.blk (.map b) => sameAll sameE a b
 | _,_ => false
theorem Obj.same_eq (a b : Obj) (h : Obj.same a b = true) : a = b:=by
 unfold Obj.same at h
 split at h
 ·rw [sameAll_eq AVal.same_eq _ _ h]
 ·simp only [Bool.and_eq_true,decide_eq_true_eq] at h
  obtain ⟨⟨⟨rfl,rfl⟩,rfl⟩,h⟩:=h
  rw [Dat.eqvL_eq _ _ h]
 ·simp only [Bool.and_eq_true,decide_eq_true_eq] at h
  obtain ⟨⟨rfl,rfl⟩,h⟩:=h
  rw [sameAll_eq (sameAll_eq AVal.same_eq) _ _ h]
 ·rw [sameAll_eq sameE_eq _ _ h]
 ·cases h
def Cell.same : Cell → Cell → Bool
 | .nil,.nil => true
 | .d a,.d b => Dat.eqvL a b
 | .own a b c l,.own x y z m => decide (a = x) && decide (b = y) && decide (c = z) && Dat.eqvL l m
 | _,_ => false
theorem Cell.same_eq (a b : Cell) (h : Cell.same a b = true) : a = b:=by
 unfold Cell.same at h
 split at h
 ·rfl
 ·rw [Dat.eqvL_eq _ _ h]
 ·simp only [Bool.and_eq_true,decide_eq_true_eq] at h
  obtain ⟨⟨⟨rfl,rfl⟩,rfl⟩,h⟩:=h
  rw [Dat.eqvL_eq _ _ h]
 ·cases h
def sameC (a b : Dat × Cell) : Bool:=Dat.eqv a.1 b.1 && Cell.same a.2 b.2
theorem sameC_eq (a b : Dat × Cell) (h : sameC a b = true) : a = b:=by
 simp only [sameC,Bool.and_eq_true] at h
 exact Prod.ext (Dat.eqv_eq _ _ h.1) (Cell.same_eq _ _ h.2)
def TObj.same : TObj → TObj → Bool
 | .plain a,.plain b => Obj.same a b
 | .fam a b c l,.fam x y z m => decide (a = x) && decide (b = y) && decide (c = z) && sameAll Cell.same l m
 | .mapf a l,.mapf x m => decide (a = x) && sameAll sameC l m
 | _,_ => false
theorem TObj.same_eq (a b : TObj) (h : TObj.same a b = true) : a = b:=by
 unfold TObj.same at h
 split at h
 ·rw [Obj.same_eq _ _ h]
 ·simp only [Bool.and_eq_true,decide_eq_true_eq] at h
  obtain ⟨⟨⟨rfl,rfl⟩,rfl⟩,h⟩:=h
  rw [sameAll_eq Cell.same_eq _ _ h]
 ·simp only [Bool.and_eq_true,decide_eq_true_eq] at h
  obtain ⟨rfl,h⟩:=h
  rw [sameAll_eq sameC_eq _ _ h]
 ·cases h
def sameAt (T : TLook) (upd : List (RId × TObj)) (r : RId) : Bool :=
 match T r,updT T upd r with
 | some a,some b => TObj.same a b
 | _,_ => false
theorem sameAt_eq {T : TLook} {upd : List (RId × TObj)} {r : RId} (h : sameAt T upd r = true) : updT T upd r = T r:=by
 unfold sameAt at h
 split at h
 ·rename_i a b ha hb
  rw [ha,hb,TObj.same_eq _ _ h]
 ·cases h
def slim (T : TLook) (upd : List (RId × TObj)) : List (RId × TObj):=upd.filter fun u => !sameAt T upd u.1
structure LogE where
 seen : List RId
 upd : List RId
 chg : List RId
 deriving Inhabited
abbrev Log:=List (Nat × LogE)
def chgOf (T : TLook) (upd : List (RId × TObj)) : List RId:=(slim T upd).map (·.1)
def logOf (o : AO) (i : Nat) (g : Nat → AVal) (T : TLook) (out : TOut) : Log :=
 if o.lg then [(i,⟨zce7 o.k g T,out.2.map (·.1),chgOf T out.2⟩)] else []
def zad7 (K : Orc) : Nat → List AO → St → Log → Option (St × Log)
 | _,[],s,lg => some (s,lg)
 | i,o :: r,s,lg =>
  match aoE K o (gE s.env) (gT s.objs) with
  | none => none
  | some out => zad7 K (i + 1) r ⟨putE s.env o.dst out.1,pTs s.objs out.2⟩ (lg ++ logOf o i (gE s.env) (gT s.objs) out)
def logAt (lg : Log) (i : Nat) : LogE :=
 match lg with
 | [] => ⟨[],[],[]⟩
 | (j,a) :: r => if j = i then a else logAt r i
def meets (a b : List RId) : Bool:=a.any fun i => b.contains i
def apart (a b : LogE) : Bool:=!(meets a.upd b.seen) && !(meets a.upd b.upd) && !(meets a.seen b.upd)
def apartC (a b : LogE) : Bool:=!(meets a.chg b.seen) && !(meets a.chg b.upd) && !(meets a.seen b.chg) && !(meets a.upd b.chg)
def pairK (a b : LogE) : Bool → Bool
 | true => true
 | false => apartC a b
def pairOk (lg : Log) (p : Nat × Nat) : Bool:=pairK (logAt lg p.1) (logAt lg p.2) (apart (logAt lg p.1) (logAt lg p.2))
def restrict (live : List Nat) (env : Env) : Env:=live.map fun t => (t,gE env t)
def nameL (t : Nat) : Nat → List RId → List (RId × RId) → List (RId × RId)
 | _,[],done => done
 | k,i :: r,done => if i.1 == 0 || done.any (fun p => p.1 == i) then nameL t (k + 1) r done else nameL t (k + 1) r (done ++ [(i,(t + 1,k))])
def namesE (T : TLook) (g : Nat → AVal) : List Nat → List (RId × RId) → Option (List (RId × RId))
 | [],done => some done
 | t :: r,done => match collect T 64 (g t).rids [] with
  | none => none
  | some l => namesE T g r (nameL t 0 l done)
def lookN : List (RId × RId) → RId → RId
 | [],i => i
 | (i',j) :: r,i => if i' = i then j else lookN r i
def dropE (names : List Nat) (s : St) : Option St :=
 match names with
 | [] => some s
 | _ => match namesE (gT s.objs) (gE s.env) names [] with
  | none => none
  | some nm => match collect (gT s.objs) 64 ((s.objs.map (·.1)).filter (fun i => i.1 == 0) ++ AVal.ridsL (s.env.map (·.2))) [] with
   | none => none
   | some order => match gather (gT s.objs) order with
    | none => none
    | some os =>
     if (order.map (lookN nm)).Nodup ∧ order.all (fun i => i.1 != 0 || lookN nm i == i) then
      some ⟨s.env.map fun p => (p.1,p.2.tren (lookN nm)),(order.map (lookN nm)).zip (os.map (TObj.tren (lookN nm)))⟩
     else none
def runReg (K : Orc) (r : AReg) (s : St) : Option St :=
 match dropE r.drop ⟨restrict r.live s.env,s.objs⟩ with
 | none => none
 | some s =>
  match zad7 K 0 r.ops s [] with
  | none => none
  | some (s,lg) => if r.pairs.all (pairOk lg) then some s else none
def iter (body : St → Option (AEx × St)) : Nat → St → Option (AEx × St)
 | 0,_ => none
 | n + 1,s =>
  match body s with
  | none => none
  | some (.normal,s') => iter body n s'
  | some r => some r
open Classical in
noncomputable def zva7 (body : St → Option (AEx × St)) (s : St) : Option (AEx × St) :=
 if h : ∃ r,∃ n,iter body n s = some r then some (Classical.choose h) else none
def rfE (K : Orc) (x : AX) (k site : Nat) (caps : List Nat) (s : St) : Option (AEx × St) :=
 match evX (gE s.env) x with
 | .fn f vs =>
  if f = YID ∨ BIGF ≤ f then none else
  match gT s.objs (site + 1,0) with
  | some _ => none
  | none =>
   match callE K (site + 1) f ((.bref true ((site + 1,0),0,0),true) :: vs.map fun v => (v,true)) false
     (gT (pT s.objs (site + 1,0) (.plain (.blk (.loop k .ready (caps.map fun t => (t,gE s.env t))))))) with
   | none => none
   | some (_,us) =>
    match gT (pTs (pT s.objs (site + 1,0) (.plain (.blk (.loop k .ready (caps.map fun t => (t,gE s.env t)))))) us) (site + 1,0) with
    | some (.plain (.blk (.loop _ st _))) =>
     match st.out with
     | some x => some (x,⟨s.env,pT (pTs (pT s.objs (site + 1,0) (.plain (.blk (.loop k .ready (caps.map fun t => (t,gE s.env t)))))) us) (site + 1,0) (.plain (.blk .dead))⟩)
     | none => none
    | _ => none
 | _ => none
noncomputable def exec (K : Orc) : AC → St → Option (AEx × St)
 | .skip,s => some (.normal,s)
 | .reg r,s => match runReg K r s with
  | some s => some (.normal,s)
  | none => none
 | .seq a b,s =>
  match exec K a s with
  | some (.normal,s') => exec K b s'
  | r => r
 | .cond x a b,s =>
  match evX (gE s.env) x with
  | .dat (.bool t) => if t then exec K a s else exec K b s
  | _ => none
 | .block id c,s =>
  match exec K c s with
  | some (.exit id',s') => if id' = id then some (.normal,s') else some (.exit id',s')
  | r => r
 | .loop c,s => zva7 (exec K c) s
 | .exit id,s => some (.exit id,s)
 | .ret,s => some (.ret,s)
 | .rf x k site caps,s => rfE K x k site caps s
def resE (T : TLook) (keep : Bool) (v : AVal) : Option (AVal × List (RId × TObj)) :=
 match v with
 | .ref id off => some (.ref id off,[])
 | .nilp => some (.nilp,[])
 | .fn f l => some (.fn f l,[])
 | .bref b id => some (.bref b id,[])
 | .nils => if keep then some (.nils,[]) else some (.dat (.sl []),[])
 | .cap0 => if keep then some (.cap0,[]) else some (.dat (.sl []),[])
 | .rsl id ver sz off len => if keep then some (.rsl id ver sz off len,[]) else (decV T (.rsl id ver sz off len)).map fun p => (.dat p.1,p.2)
 | .agg l => if keep then some (.agg l,[]) else (decV T (.agg l)).map fun p => (.dat p.1,p.2)
 | v => (decV T v).map fun p => (.dat p.1,p.2)
def ressE (T : TLook) (keep : Bool) : List AVal → Option (List AVal × List (RId × TObj))
 | [] => some ([],[])
 | v :: r =>
  match resE T keep v with
  | none => none
  | some (d,us) =>
   match ressE (updT T us) keep r with
   | none => none
   | some (ds,us') => some (d :: ds,us ++ us')
def resV (s : St) : AR → Option AVal
 | .t n => some (gE s.env n)
 | .cell n size agg => loadE (flat (gT s.objs)) size agg (gE s.env n)
def resVs (s : St) : List AR → Option (List AVal)
 | [] => some []
 | x :: r =>
  match resV s x,resVs s r with
  | some v,some vs => some (v :: vs)
  | _,_ => none
def retE (fn : AFun) (m : Nat) (s : St) : Option (AVal × List TObj) :=
 match resVs s fn.res with
 | none => none
 | some rs =>
  match ressE (gT s.objs) fn.keep rs with
  | none => none
  | some (vs,us) =>
   let objs:=pTs s.objs us
   match collect (gT objs) 64 ((List.range m).map (fun j => ((0,j) : RId)) ++ AVal.ridsL vs) [] with
   | none => none
   | some order =>
    match gather (gT objs) order with
    | none => none
    | some os =>
     let vs:=AVal.trenL (toPos order) vs
     some (match vs with | [v] => v | _ => .tup vs,os.map (TObj.tren (toPos order)))
def enter (args : List AVal) (os : List TObj) : St :=
 ⟨args.zipIdx.map fun p => (p.2,p.1),os.zipIdx.map fun p => ((0,p.2),p.1)⟩
noncomputable def zkd7 (K : Orc) (fn : AFun) (args : List AVal) (os : List TObj) : Option (AVal × List TObj) :=
 if args.length = fn.np then
  match exec K fn.code (enter args os) with
  | some (.normal,s) => retE fn os.length s
  | some (.ret,s) => retE fn os.length s
  | _ => none
 else none
def isEmp : Option AVal → Bool
 | some (.dat (.sl [])) => true
 | some (.rsl _ _ _ _ 0) => true
 | _ => false
open Classical in
noncomputable def joinR (r r' : AVal × List TObj) : Option (AVal × List TObj) :=
 match r,r' with
 | (.nils,a),(.cap0,b) => if a = b then some (.cap0,a) else none
 | (.cap0,a),(.nils,b) => if a = b then some (.cap0,a) else none
 | _,_ => none
open Classical in
noncomputable def runS (K : Orc) (fn : AFun) (args : List AVal) (os : List TObj) : Option (AVal × List TObj) :=
 match fn.split with
 | none => zkd7 K fn args os
 | some i => if isEmp args[i]? = true then
   match zkd7 K fn (args.set i (.emp true)) os,zkd7 K fn (args.set i (.emp false)) os with
   | some r,some r' => if r = r' then some r else joinR r r'
   | _,_ => none
  else zkd7 K fn args os
structure Tab where
 fn : FuncId → Option AFun
 law : Orc
 lp : Nat → Option ALoop:=fun _ => none
def stOf : AEx → LSt
 | .normal => .ready
 | e => .done e
def yieldG (ex : AC → St → Option (AEx × St)) (lps : Nat → Option ALoop) (args : List AVal) (os : List TObj) : Option (AVal × List TObj) :=
 match args.getLast? with
 | some (.bref true ((0,j),0,0)) =>
  match os[j]? with
  | some (.plain (.blk (.loop k .ready env))) =>
   match lps k with
   | some lp =>
    if args.length = lp.ps.length + 1 then
     match ex lp.assign ⟨lp.ps.zip args ++ env,(enter [] os).objs⟩ with
     | some (.normal,s1) =>
      match gT s1.objs (0,j) with
      | some (.plain (.blk (.loop k1 .ready env1))) =>
       match ex lp.body ⟨s1.env,pT s1.objs (0,j) (.plain (.blk (.loop k1 .busy env1)))⟩ with
       | some (e,s2) =>
        match gT s2.objs (0,j) with
        | some (.plain (.blk (.loop k2 .busy env2))) =>
         retE ⟨0,[.t 0],false,.skip,none⟩ os.length ⟨[(0,.dat (.bool (stOf e == .ready)))],pT s2.objs (0,j) (.plain (.blk (.loop k2 (stOf e) env2)))⟩
        | _ => none
       | none => none
      | _ => none
     | _ => none
    else none
   | none => none
  | _ => none
 | _ => none
noncomputable def yieldE (K : Orc) (lps : Nat → Option ALoop) (args : List AVal) (os : List TObj) : Option (AVal × List TObj):=yieldG (exec K) lps args os
noncomputable def Kn (tbl : Tab) : Nat → Orc
 | 0 => fun _ _ _ => none
 | n + 1 => fun f args os => if f = YID then yieldE (Kn tbl n) tbl.lp args os else match tbl.fn f with
  | some fn => runS (Kn tbl n) fn args os
  | none => tbl.law f args os
open Classical in
noncomputable def callT (tbl : Tab) : Orc:=fun f args os =>
 if h : ∃ r,∃ n,Kn tbl n f args os = some r then some (Classical.choose h) else none
end Go.Am

namespace Go.Am
abbrev Froz:=Nat → Nat → Option Value
def cellsAt (F : Froz) (b o : Nat) (cs : List Value) : Prop:=∀ (j : Nat) (v : Value),cs[j]? = some v → F b (o + j) = some v
def Froz.le (F F' : Froz) : Prop:=∀ b o v,F b o = some v → F' b o = some v
theorem cellsAt.mono {F F' : Froz} (h : F.le F') {b o : Nat} {cs : List Value} (hc : cellsAt F b o cs) : cellsAt F' b o cs :=
 fun j v hj => h _ _ _ (hc j v hj)
mutual
def RepD (F : Froz) : Dat → List Value → Prop
 | .int k n,cs => cs = [.int k n]
 | .bool b,cs => cs = [.bool b]
 | .str s,cs => cs = [.string ⟨s.toArray⟩]
 | .sl l,cs => ∃ a cap,cs = [.slice a l.length cap] ∧ l.length ≤ cap ∧ (l = [] ∨ ∃ b o sz,a = some ⟨b,o,none⟩ ∧ RowD F l b o sz)
 | .agg l,cs => AggD F l cs
def AggD (F : Froz) : List Dat → List Value → Prop
 | [],cs => cs = []
 | d :: r,cs => ∃ c cs',cs = c :: cs' ∧ d.isAgg = false ∧ RepD F d [c] ∧ AggD F r cs'
def RowD (F : Froz) : List Dat → Nat → Nat → Nat → Prop
 | [],_,_,_ => True
 | d :: r,b,o,sz => (∃ cs,cs.length = sz ∧ RepD F d cs ∧ cellsAt F b o cs) ∧ RowD F r b (o + sz) sz
end
def zfc7 : Value → Bool
 | .agg _ => true
 | _ => false
def RepV (F : Froz) (d : Dat) (v : Value) : Prop:=RepD F d v.cells.toList ∧ zfc7 v = d.isAgg
mutual
theorem RepD.mono {F F' : Froz} (h : F.le F') : ∀ (d : Dat) (cs : List Value),RepD F d cs → RepD F' d cs
 | .int k n,cs,hd => by simpa [RepD] using hd
 | .bool b,cs,hd => by simpa [RepD] using hd
 | .str s,cs,hd => by simpa [RepD] using hd
 | .sl l,cs,hd => by
  simp only [RepD] at hd ⊢
  obtain ⟨a,cap,h1,h2,h3⟩:=hd
  refine ⟨a,cap,h1,h2,?_⟩
  rcases h3 with h3 | ⟨b,o,sz,ha,hr⟩
  ·exact .inl h3
  ·exact .inr ⟨b,o,sz,ha,RowD.mono h l b o sz hr⟩
 | .agg l,cs,hd => by
  simp only [RepD] at hd ⊢
  exact AggD.mono h l cs hd
theorem AggD.mono {F F' : Froz} (h : F.le F') : ∀ (l : List Dat) (cs : List Value),AggD F l cs → AggD F' l cs
 | [],cs,hd => by simpa [AggD] using hd
 | d :: r,cs,hd => by
  simp only [AggD] at hd ⊢
  obtain ⟨c,cs',h1,h2,h3,h4⟩:=hd
  exact ⟨c,cs',h1,h2,RepD.mono h d _ h3,AggD.mono h r _ h4⟩
theorem RowD.mono {F F' : Froz} (h : F.le F') : ∀ (l : List Dat) (b o sz : Nat),RowD F l b o sz → RowD F' l b o sz
 | [],b,o,sz,hd => by simp [RowD]
 | d :: r,b,o,sz,hd => by
  simp only [RowD] at hd ⊢
  obtain ⟨⟨cs,h1,h2,h3⟩,h4⟩:=hd
  exact ⟨⟨cs,h1,RepD.mono h d _ h2,h3.mono h⟩,RowD.mono h r _ _ _ h4⟩
end
theorem RepV.mono {F F' : Froz} (h : F.le F') {d : Dat} {v : Value} (hd : RepV F d v) : RepV F' d v:=⟨RepD.mono h _ _ hd.1,hd.2⟩
theorem AggD.length {F : Froz} : ∀ {l : List Dat} {cs : List Value},AggD F l cs → cs.length = l.length
 | [],cs,h => by simp only [AggD] at h; simp [h]
 | d :: r,cs,h => by
  simp only [AggD] at h
  obtain ⟨c,cs',rfl,_,_,h4⟩:=h
  simp [h4.length]
theorem RepD.length {F : Froz} {d : Dat} {cs : List Value} (h : RepD F d cs) : cs.length = d.width:=by
 cases d with
 | agg l => simp only [RepD] at h; simpa [Dat.width] using h.length
 | sl l => simp only [RepD] at h; obtain ⟨a,cap,rfl,_⟩:=h; simp [Dat.width]
 | _ => simp only [RepD] at h; subst h; simp [Dat.width]
theorem RepD.leaf {F : Froz} {d : Dat} {cs : List Value} (h : RepD F d cs) (hd : d.isAgg = false) : ∃ c,cs = [c] ∧ c.oneCell' = true ∧ zfc7 c = false:=by
 cases d with
 | agg l => simp at hd
 | sl l => simp only [RepD] at h; obtain ⟨a,cap,rfl,_⟩:=h; exact ⟨_,rfl,rfl,rfl⟩
 | _ => simp only [RepD] at h; subst h; exact ⟨_,rfl,rfl,rfl⟩
theorem AggD.one {F : Froz} : ∀ {l : List Dat} {cs : List Value},AggD F l cs → ∀ c ∈ cs,c.oneCell' = true
 | [],cs,h => by simp only [AggD] at h; simp [h]
 | d :: r,cs,h => by
  simp only [AggD] at h
  obtain ⟨c,cs',rfl,h2,h3,h4⟩:=h
  intro x hx
  obtain ⟨c',hc,h1,_⟩:=h3.leaf h2
  cases hx with
  | head => simp at hc; exact hc ▸ h1
  | tail _ hx => exact h4.one x hx
theorem RepD.one {F : Froz} {d : Dat} {cs : List Value} (h : RepD F d cs) : ∀ c ∈ cs,c.oneCell' = true:=by
 cases hd : d.isAgg with
 | true =>
  cases d with
  | agg l => simp only [RepD] at h; exact h.one
  | _ => simp at hd
 | false =>
  obtain ⟨c,rfl,h1,_⟩:=h.leaf hd
  simpa using h1
theorem zob7 {v : Value} (h : zfc7 v = false) : v.cells = #[v]:=by cases v <;> simp_all [zfc7,Value.cells]
theorem zjb7 {F : Froz} {d : Dat} {c : Value} (hd : d.isAgg = false) (h : RepD F d [c]) : RepV F d c:=by
 obtain ⟨c',hc,_,h2⟩:=h.leaf hd
 simp at hc
 subst hc
 exact ⟨by rw [zob7 h2]; exact h,by rw [h2,hd]⟩
theorem RepV.cell {F : Froz} {d : Dat} {v : Value} (h : RepV F d v) (hd : d.isAgg = false) : RepD F d [v]:=by
 obtain ⟨h1,h2⟩:=h
 rw [hd] at h2
 rw [zob7 h2] at h1
 exact h1
theorem RepV.agg {F : Froz} {l : List Dat} {v : Value} (h : RepV F (.agg l) v) : ∃ cs,v = .agg cs ∧ AggD F l cs.toList:=by
 obtain ⟨h1,h2⟩:=h
 cases v <;> simp [zfc7,Dat.isAgg] at h2
 case agg cs => exact ⟨cs,rfl,by simpa [RepD,Value.cells] using h1⟩
theorem repV_agg {F : Froz} {l : List Dat} {cs : Array Value} (h : AggD F l cs.toList) : RepV F (.agg l) (.agg cs) :=
 ⟨by simpa [RepD,Value.cells] using h,rfl⟩
theorem RepD.cellsAgg {F : Froz} {d : Dat} {cs : List Value} (h : RepD F d cs) : AggD F d.cells cs:=by
 cases hd : d.isAgg with
 | true =>
  cases d with
  | agg l => simpa [RepD] using h
  | _ => simp at hd
 | false =>
  obtain ⟨c,rfl,h1,_⟩:=h.leaf hd
  have : d.cells = [d]:=by cases d <;> simp_all
  rw [this]
  simp only [AggD]
  exact ⟨c,[],rfl,hd,h,rfl⟩
theorem AggD.get {F : Froz} : ∀ {l : List Dat} {cs : List Value},AggD F l cs → ∀ {i : Nat} {d : Dat},l[i]? = some d → ∃ c,cs[i]? = some c ∧ d.isAgg = false ∧ RepD F d [c]
 | [],cs,h,i,d,hi => by simp at hi
 | x :: r,cs,h,i,d,hi => by
  simp only [AggD] at h
  obtain ⟨c,cs',rfl,h2,h3,h4⟩:=h
  cases i with
  | zero => simp at hi; subst hi; exact ⟨c,rfl,h2,h3⟩
  | succ i => simp at hi; simpa using h4.get hi
theorem AggD.take {F : Froz} : ∀ {l : List Dat} {cs : List Value},AggD F l cs → ∀ (n : Nat),AggD F (l.take n) (cs.take n)
 | [],cs,h,n => by simp only [AggD] at h; subst h; simp [AggD]
 | x :: r,cs,h,0 => by simp [AggD]
 | x :: r,cs,h,n + 1 => by
  simp only [AggD] at h
  obtain ⟨c,cs',rfl,h2,h3,h4⟩:=h
  simp only [List.take_succ_cons,AggD]
  exact ⟨c,cs'.take n,rfl,h2,h3,h4.take n⟩
theorem AggD.drop {F : Froz} : ∀ {l : List Dat} {cs : List Value},AggD F l cs → ∀ (n : Nat),AggD F (l.drop n) (cs.drop n)
 | [],cs,h,n => by simp only [AggD] at h; subst h; simp [AggD]
 | x :: r,cs,h,0 => by simpa using h
 | x :: r,cs,h,n + 1 => by
  simp only [AggD] at h
  obtain ⟨c,cs',rfl,h2,h3,h4⟩:=h
  simpa using h4.drop n
theorem AggD.append {F : Froz} : ∀ {l l' : List Dat} {cs cs' : List Value},AggD F l cs → AggD F l' cs' → AggD F (l ++ l') (cs ++ cs')
 | [],l',cs,cs',h,h' => by simp only [AggD] at h; subst h; simpa using h'
 | x :: r,l',cs,cs',h,h' => by
  simp only [AggD] at h
  obtain ⟨c,cs'',rfl,h2,h3,h4⟩:=h
  simp only [List.cons_append,AggD]
  exact ⟨c,cs'' ++ cs',rfl,h2,h3,h4.append h'⟩
theorem RowD.get {F : Froz} : ∀ {l : List Dat} {b o sz : Nat},RowD F l b o sz → ∀ {i : Nat} {d : Dat},l[i]? = some d →
  ∃ cs,cs.length = sz ∧ RepD F d cs ∧ cellsAt F b (o + i * sz) cs
 | [],b,o,sz,h,i,d,hi => by simp at hi
 | x :: r,b,o,sz,h,i,d,hi => by
  simp only [RowD] at h
  cases i with
  | zero => simp at hi; subst hi; simpa using h.1
  | succ i =>
   simp at hi
   obtain ⟨cs,h1,h2,h3⟩:=h.2.get hi
   refine ⟨cs,h1,h2,?_⟩
   rwa [show o + (i + 1) * sz = o + sz + i * sz by rw [Nat.add_mul]; omega]
theorem rowD_of {F : Froz} : ∀ {l : List Dat} {b o sz : Nat},(∀ (i : Nat) (d : Dat),l[i]? = some d → ∃ cs,cs.length = sz ∧ RepD F d cs ∧ cellsAt F b (o + i * sz) cs) → RowD F l b o sz
 | [],b,o,sz,h => by simp [RowD]
 | x :: r,b,o,sz,h => by
  simp only [RowD]
  refine ⟨by simpa using h 0 x rfl,rowD_of fun i d hi => ?_⟩
  obtain ⟨cs,h1,h2,h3⟩:=h (i + 1) d (by simpa using hi)
  refine ⟨cs,h1,h2,?_⟩
  rwa [show o + sz + i * sz = o + (i + 1) * sz by rw [Nat.add_mul]; omega]
theorem RowD.width {F : Froz} {l : List Dat} {b o sz : Nat} (h : RowD F l b o sz) : ∀ d ∈ l,d.width = sz:=by
 intro d hd
 obtain ⟨i,hi⟩:=List.getElem?_of_mem hd
 obtain ⟨cs,h1,h2,_⟩:=h.get hi
 rw [← h2.length,h1]
structure Loc where
 b : Nat
 o : Nat
 n : Nat
structure Ctx where
 w : World
 F : Froz
 μ : Id → Loc
 ρ : Look
def boxAt (C : Ctx) (id : Id) : Option Loc :=
 match C.ρ id with
 | some (.box _) => some (C.μ id)
 | _ => none
structure ArrAt where
 ver : Nat
 sz : Nat
 n : Nat
 L : Loc
def blkAt (C : Ctx) (id : Id) : Option Nat :=
 match C.ρ id with
 | some (.blk _) => some (C.μ id).b
 | _ => none
def arrAt (C : Ctx) (id : Id) : Option ArrAt :=
 match C.ρ id with
 | some (.arr sz ver _ es) => some ⟨ver,sz,es.length,C.μ id⟩
 | some (.rarr sz ver es) => some ⟨ver,sz,es.length,C.μ id⟩
 | _ => none
mutual
def RepA (C : Ctx) : AVal → Value → Prop
 | .dat d,v => RepV C.F d v
 | .nils,v => v = .slice none 0 0
 | .emp t,v => ∃ a cap,v = .slice a 0 cap ∧ a.isNone = t
 | .cap0,v => ∃ a,v = .slice a 0 0
 | .fsl l,v => (∃ a,v = .slice a l.length l.length) ∧ RepV C.F (.sl l) v
 | .nilp,v => v = .pointer none
 | .ref id off,v => ∃ L,boxAt C id = some L ∧ v = .pointer (some ⟨L.b,L.o + off,none⟩)
 | .eref id ver i off,v => ∃ A a,arrAt C id = some A ∧ ver ≤ A.ver ∧ v = .pointer (some a) ∧ (ver = A.ver → i < A.n ∧ a = ⟨A.L.b,A.L.o + i * A.sz + off,none⟩)
 | .rsl id ver sz off len,v => ∃ A a cap,arrAt C id = some A ∧ ver ≤ A.ver ∧ v = .slice a len cap ∧ len ≤ cap ∧ (0 < cap → a.isSome = true) ∧
   (ver = A.ver → sz = A.sz ∧ off + len ≤ A.n ∧ A.L.n = (off + cap) * sz ∧ (0 < cap → a = some ⟨A.L.b,A.L.o + off * sz,none⟩))
 | .fp l,v => ∃ b o cs,v = .pointer (some ⟨b,o,none⟩) ∧ AggD C.F l cs ∧ cellsAt C.F b o cs
 | .junk,v => v.oneCell' = true ∧ zfc7 v = false
 | .lits sz n l,v => ∃ b o cap cs,v = .slice (some ⟨b,o,none⟩) n cap ∧ n ≤ cap ∧ l.length = n * sz ∧ RepL C l cs ∧ cellsAt C.F b o cs ∧ l.all AVal.leaf = true ∧ ∀ c ∈ cs,c.oneCell' = true
 | .agg l,v => ∃ cs : Array Value,v = .agg cs ∧ RepL C l cs.toList ∧ l.all AVal.leaf = true ∧ ∀ c ∈ cs,c.oneCell' = true
 | .tup l,v => ∃ cs : Array Value,v = .tuple cs ∧ RepL C l cs.toList
 | .fn f l,v => ∃ cs : Array Value,v = (if BIGF ≤ f then .func (.func (f - BIGF)) cs #[] else .func (.func f) #[] cs) ∧ RepL C l cs.toList
 | .bref y id,v => ∃ b,blkAt C id = some b ∧ v = (if y then .func (.yield b) #[] #[] else .map (some b))
 | .undef,_ => True
def RepL (C : Ctx) : List AVal → List Value → Prop
 | [],cs => cs = []
 | a :: r,cs => ∃ c cs',cs = c :: cs' ∧ RepA C a c ∧ RepL C r cs'
end
def GlobOK [Glob] (F : Froz) : Prop:=∀ n ds,Glob.tab n = some ds → ∃ cs,AggD F ds cs ∧ cellsAt F n 0 cs
theorem GlobOK.mono [Glob] {F F' : Froz} (h : F.le F') (hg : GlobOK F) : GlobOK F':=fun n ds e => by
 obtain ⟨cs,h1,h2⟩:=hg n ds e
 exact ⟨cs,AggD.mono h _ _ h1,h2.mono h⟩
structure Ext (f : Id → Id) (D : Id → Prop) (C C' : Ctx) : Prop where
 F : C.F.le C'.F
 box : ∀ id L,D id → boxAt C id = some L → boxAt C' (f id) = some L
 arr : ∀ id A,D id → arrAt C id = some A → ∃ A',arrAt C' (f id) = some A' ∧ A.ver ≤ A'.ver ∧ (A.ver = A'.ver → A'.sz = A.sz ∧ A'.L = A.L ∧ A.n ≤ A'.n)
 blk : ∀ id b,D id → blkAt C id = some b → blkAt C' (f id) = some b
mutual
theorem RepA.ext {f : Id → Id} {D : Id → Prop} {C C' : Ctx} (h : Ext f D C C') : ∀ (a : AVal) (v : Value),(∀ id ∈ a.ids,D id) → RepA C a v → RepA C' (a.ren f) v
 | .dat d,v,hi,hr => by simp only [RepA,AVal.ren] at hr ⊢; exact hr.mono h.F
 | .nils,v,hi,hr => by simpa only [RepA,AVal.ren] using hr
 | .emp t,v,hi,hr => by simpa only [RepA,AVal.ren] using hr
 | .cap0,v,hi,hr => by simpa only [RepA,AVal.ren] using hr
 | .fsl l,v,hi,hr => by simp only [RepA,AVal.ren] at hr ⊢; exact ⟨hr.1,hr.2.mono h.F⟩
 | .nilp,v,hi,hr => by simpa only [RepA,AVal.ren] using hr
 | .undef,v,hi,hr => by simp only [RepA,AVal.ren]
 | .junk,v,hi,hr => by simpa only [RepA,AVal.ren] using hr
 | .ref id off,v,hi,hr => by
  simp only [RepA,AVal.ren] at hr ⊢
  obtain ⟨L,h1,h2⟩:=hr
  exact ⟨L,h.box id L (hi id (by simp [AVal.ids])) h1,h2⟩
 | .eref id ver i off,v,hi,hr => by
  simp only [RepA,AVal.ren] at hr ⊢
  obtain ⟨A,a,h1,h2,h3,h4⟩:=hr
  obtain ⟨A',h5,h6,h7⟩:=h.arr id A (hi id (by simp [AVal.ids])) h1
  refine ⟨A',a,h5,Nat.le_trans h2 h6,h3,fun e => ?_⟩
  have e1 : A.ver = A'.ver:=by omega
  obtain ⟨h8,h9,h10⟩:=h7 e1
  obtain ⟨h11,h12⟩:=h4 (by omega)
  rw [h8,h9]
  exact ⟨by omega,h12⟩
 | .rsl id ver sz off len,v,hi,hr => by
  simp only [RepA,AVal.ren] at hr ⊢
  obtain ⟨A,a,cap,h1,h2,h3,h3',h3'',h4⟩:=hr
  obtain ⟨A',h5,h6,h7⟩:=h.arr id A (hi id (by simp [AVal.ids])) h1
  refine ⟨A',a,cap,h5,Nat.le_trans h2 h6,h3,h3',h3'',fun e => ?_⟩
  have e1 : A.ver = A'.ver:=by omega
  obtain ⟨h8,h9,h10⟩:=h7 e1
  obtain ⟨h11,h12,h13,h14⟩:=h4 (by omega)
  rw [h8,h9]
  exact ⟨h11,by omega,h13,h14⟩
 | .fp l,v,hi,hr => by
  simp only [RepA,AVal.ren] at hr ⊢
  obtain ⟨b,o,cs,h1,h2,h3⟩:=hr
  exact ⟨b,o,cs,h1,AggD.mono h.F _ _ h2,h3.mono h.F⟩
 | .lits sz n l,v,hi,hr => by
  simp only [RepA,AVal.ren] at hr ⊢
  obtain ⟨b,o,cap,cs,h1,h2,h2',h3,h4,h5,h6⟩:=hr
  have:=zhd7 f l
  exact ⟨b,o,cap,cs,h1,h2,by rw [this.1]; exact h2',RepL.ext h l cs (by simpa [AVal.ids] using hi) h3,h4.mono h.F,by rw [this.2]; exact h5,h6⟩
 | .agg l,v,hi,hr => by
  simp only [RepA,AVal.ren] at hr ⊢
  obtain ⟨cs,h1,h3,h5,h6⟩:=hr
  have:=zhd7 f l
  exact ⟨cs,h1,RepL.ext h l _ (by simpa [AVal.ids] using hi) h3,by rw [this.2]; exact h5,h6⟩
 | .tup l,v,hi,hr => by
  simp only [RepA,AVal.ren] at hr ⊢
  obtain ⟨cs,h1,h3⟩:=hr
  exact ⟨cs,h1,RepL.ext h l _ (by simpa [AVal.ids] using hi) h3⟩
 | .fn g l,v,hi,hr => by
  simp only [RepA,AVal.ren] at hr ⊢
  obtain ⟨cs,h1,h3⟩:=hr
  exact ⟨cs,h1,RepL.ext h l _ (by simpa [AVal.ids] using hi) h3⟩
 | .bref y id,v,hi,hr => by
  simp only [RepA,AVal.ren] at hr ⊢
  obtain ⟨b,h1,h2⟩:=hr
  exact ⟨b,h.blk id b (hi id (by simp [AVal.ids])) h1,h2⟩
theorem RepL.ext {f : Id → Id} {D : Id → Prop} {C C' : Ctx} (h : Ext f D C C') : ∀ (l : List AVal) (cs : List Value),(∀ id ∈ AVal.idsL l,D id) → RepL C l cs → RepL C' (AVal.renL f l) cs
 | [],cs,hi,hr => by simpa only [RepL,AVal.renL] using hr
 | a :: r,cs,hi,hr => by
  simp only [RepL,AVal.renL] at hr ⊢
  obtain ⟨c,cs',h1,h2,h3⟩:=hr
  simp only [AVal.idsL,List.mem_append] at hi
  exact ⟨c,cs',h1,RepA.ext h a c (fun id hid => hi id (.inl hid)) h2,RepL.ext h r cs' (fun id hid => hi id (.inr hid)) h3⟩
theorem zhd7 (f : Id → Id) : ∀ (l : List AVal),(AVal.renL f l).length = l.length ∧ (AVal.renL f l).all AVal.leaf = l.all AVal.leaf
 | [] => by simp [AVal.renL]
 | a :: r => by
  have:=zhd7 f r
  simp only [AVal.renL,List.length_cons,this.1,List.all_cons,this.2,true_and]
  cases a <;> simp [AVal.ren,AVal.leaf]
end
mutual
theorem ren_id : ∀ (a : AVal),a.ren (fun i => i) = a
 | .dat d => rfl
 | .nils => rfl
 | .emp t => rfl
 | .cap0 => rfl
 | .fsl l => rfl
 | .nilp => rfl
 | .undef => rfl
 | .junk => rfl
 | .ref id off => rfl
 | .eref id ver i off => rfl
 | .rsl id ver sz off len => rfl
 | .fp l => rfl
 | .lits sz n l => by simp [AVal.ren,renL_id l]
 | .agg l => by simp [AVal.ren,renL_id l]
 | .tup l => by simp [AVal.ren,renL_id l]
 | .fn g l => by simp [AVal.ren,renL_id l]
 | .bref y id => rfl
theorem renL_id : ∀ (l : List AVal),AVal.renL (fun i => i) l = l
 | [] => rfl
 | a :: r => by simp [AVal.renL,ren_id a,renL_id r]
end
abbrev Grow (C C' : Ctx) : Prop:=Ext (fun i => i) (fun _ => True) C C'
theorem RepA.grow {C C' : Ctx} (h : Grow C C') {a : AVal} {v : Value} (hr : RepA C a v) : RepA C' a v:=by
 have:=RepA.ext h a v (fun _ _ => trivial) hr
 rwa [ren_id] at this
theorem RepL.grow {C C' : Ctx} (h : Grow C C') {l : List AVal} {cs : List Value} (hr : RepL C l cs) : RepL C' l cs:=by
 have:=RepL.ext h l cs (fun _ _ => trivial) hr
 rwa [renL_id] at this
theorem Grow.refl (C : Ctx) : Grow C C:=⟨fun _ _ _ h => h,fun _ _ _ h => h,fun _ A _ h => ⟨A,h,Nat.le_refl _,fun _ => ⟨rfl,rfl,Nat.le_refl _⟩⟩,fun _ _ _ h => h⟩
theorem Grow.trans {C C' C'' : Ctx} (h : Grow C C') (h' : Grow C' C'') : Grow C C'':=by
 refine ⟨fun b o v hv => h'.F _ _ _ (h.F _ _ _ hv),fun id L _ hb => h'.box id L trivial (h.box id L trivial hb),fun id A _ ha => ?_,fun id b _ hb => h'.blk id b trivial (h.blk id b trivial hb)⟩
 obtain ⟨A',h1,h2,h3⟩:=h.arr id A trivial ha
 obtain ⟨A'',h4,h5,h6⟩:=h'.arr id A' trivial h1
 refine ⟨A'',h4,Nat.le_trans h2 h5,fun e => ?_⟩
 obtain ⟨a1,a2,a3⟩:=h3 (by omega)
 obtain ⟨b1,b2,b3⟩:=h6 (by omega)
 exact ⟨by rw [b1,a1],by rw [b2,a2],by omega⟩
theorem RepL.length {C : Ctx} : ∀ {l : List AVal} {cs : List Value},RepL C l cs → cs.length = l.length
 | [],cs,h => by simp only [RepL] at h; simp [h]
 | a :: r,cs,h => by
  simp only [RepL] at h
  obtain ⟨c,cs',rfl,_,h3⟩:=h
  simp [h3.length]
theorem RepL.get {C : Ctx} : ∀ {l : List AVal} {cs : List Value},RepL C l cs → ∀ {i : Nat} {a : AVal},l[i]? = some a → ∃ c,cs[i]? = some c ∧ RepA C a c
 | [],cs,h,i,a,hi => by simp at hi
 | x :: r,cs,h,i,a,hi => by
  simp only [RepL] at h
  obtain ⟨c,cs',rfl,h2,h3⟩:=h
  cases i with
  | zero => simp at hi; subst hi; exact ⟨c,rfl,h2⟩
  | succ i => simp at hi; simpa using h3.get hi
theorem repL_of {C : Ctx} : ∀ {l : List AVal} {cs : List Value},cs.length = l.length → (∀ (i : Nat) (a : AVal) (c : Value),l[i]? = some a → cs[i]? = some c → RepA C a c) → RepL C l cs
 | [],cs,hl,h => by simp only [RepL]; simpa using hl
 | x :: r,[],hl,h => by simp at hl
 | x :: r,c :: cs,hl,h => by
  simp only [RepL]
  exact ⟨c,cs,rfl,h 0 x c rfl rfl,repL_of (by simpa using hl) fun i a c hi hc => h (i + 1) a c (by simpa using hi) (by simpa using hc)⟩
theorem RepL.append {C : Ctx} {l l' : List AVal} {cs cs' : List Value} (h : RepL C l cs) (h' : RepL C l' cs') : RepL C (l ++ l') (cs ++ cs'):=by
 induction l generalizing cs with
 | nil => simp only [RepL] at h; subst h; simpa using h'
 | cons a r ih =>
  simp only [RepL] at h
  obtain ⟨c,cs'',rfl,h2,h3⟩:=h
  simp only [List.cons_append,RepL]
  exact ⟨c,cs'' ++ cs',rfl,h2,ih h3⟩
theorem RepL.take {C : Ctx} {l : List AVal} {cs : List Value} (h : RepL C l cs) (n : Nat) : RepL C (l.take n) (cs.take n):=by
 refine repL_of (by simp [h.length]) fun i a c hi hc => ?_
 rw [List.getElem?_take] at hi hc
 split at hi
 ·rename_i hlt
  rw [if_pos hlt] at hc
  obtain ⟨c',h1,h2⟩:=h.get hi
  rw [hc] at h1
  cases h1
  exact h2
 ·cases hi
theorem RepL.drop {C : Ctx} {l : List AVal} {cs : List Value} (h : RepL C l cs) (n : Nat) : RepL C (l.drop n) (cs.drop n):=by
 refine repL_of (by simp [h.length]) fun i a c hi hc => ?_
 rw [List.getElem?_drop] at hi hc
 obtain ⟨c',h1,h2⟩:=h.get hi
 rw [hc] at h1
 cases h1
 exact h2
theorem repL_dat {C : Ctx} : ∀ {l : List Dat} {cs : List Value},AggD C.F l cs → RepL C (l.map .dat) cs
 | [],cs,h => by simpa [AggD,RepL] using h
 | d :: r,cs,h => by
  simp only [AggD] at h
  obtain ⟨c,cs',rfl,h2,h3,h4⟩:=h
  simp only [List.map_cons,RepL,RepA]
  exact ⟨c,cs',rfl,zjb7 h2 h3,repL_dat h4⟩
theorem RepA.leaf {C : Ctx} {a : AVal} {v : Value} (h : RepA C a v) (ha : a.leaf = true) : v.oneCell' = true ∧ zfc7 v = false:=by
 cases a with
 | dat d =>
  simp only [RepA] at h
  simp [AVal.leaf] at ha
  obtain ⟨c,h1,h2,h3⟩:=(h.cell ha).leaf ha
  simp at h1
  subst h1
  exact ⟨h2,h3⟩
 | nils => simp only [RepA] at h; subst h; exact ⟨rfl,rfl⟩
 | emp t => simp only [RepA] at h; obtain ⟨a,cap,rfl,_⟩:=h; exact ⟨rfl,rfl⟩
 | cap0 => simp only [RepA] at h; obtain ⟨a,rfl⟩:=h; exact ⟨rfl,rfl⟩
 | fsl l => simp only [RepA] at h; obtain ⟨⟨a,rfl⟩,_⟩:=h; exact ⟨rfl,rfl⟩
 | nilp => simp only [RepA] at h; subst h; exact ⟨rfl,rfl⟩
 | ref id off => simp only [RepA] at h; obtain ⟨L,_,rfl⟩:=h; exact ⟨rfl,rfl⟩
 | eref id ver i off => simp only [RepA] at h; obtain ⟨A,a,_,_,rfl,_⟩:=h; exact ⟨rfl,rfl⟩
 | rsl id ver sz off len => simp only [RepA] at h; obtain ⟨A,a,cap,_,_,rfl,_⟩:=h; exact ⟨rfl,rfl⟩
 | fp l => simp only [RepA] at h; obtain ⟨b,o,cs,rfl,_⟩:=h; exact ⟨rfl,rfl⟩
 | lits sz n l => simp only [RepA] at h; obtain ⟨b,o,cap,cs,rfl,_⟩:=h; exact ⟨rfl,rfl⟩
 | junk => simp only [RepA] at h; exact h
 | fn f l => simp only [RepA] at h; obtain ⟨cs,rfl,_⟩:=h; split <;> exact ⟨rfl,rfl⟩
 | bref y id => simp only [RepA] at h; obtain ⟨b,_,rfl⟩:=h; cases y <;> exact ⟨rfl,rfl⟩
 | agg l => simp [AVal.leaf] at ha
 | tup l => simp [AVal.leaf] at ha
 | undef => simp [AVal.leaf] at ha
theorem RepA.cells {C : Ctx} {a : AVal} {v : Value} (h : RepA C a v) (ha : a.cells.all AVal.leaf = true) : RepL C a.cells v.cells.toList ∧ ∀ c ∈ v.cells.toList,c.oneCell' = true:=by
 have single : a.cells = [a] → RepL C a.cells v.cells.toList ∧ ∀ c ∈ v.cells.toList,c.oneCell' = true:=by
  intro e
  rw [e] at ha ⊢
  obtain ⟨h1,h2⟩:=h.leaf (by simpa using ha)
  rw [zob7 h2]
  simp only [RepL]
  exact ⟨⟨v,[],rfl,h,rfl⟩,by simpa using h1⟩
 cases a with
 | dat d =>
  cases d with
  | agg l =>
   simp only [RepA] at h
   obtain ⟨cs,rfl,hc⟩:=h.agg
   exact ⟨repL_dat hc,by simpa [Value.cells] using hc.one⟩
  | _ => exact single rfl
 | agg l =>
  simp only [RepA] at h
  obtain ⟨cs,rfl,h1,h2,h3⟩:=h
  exact ⟨by simpa [Value.cells] using h1,by simpa [Value.cells] using h3⟩
 | _ => exact single rfl
end Go.Am

namespace Go.Am
variable [Glob]
abbrev Cells:=Nat → Nat → Prop
def mayOf (T : Cells) : MemPlace → Prop:=fun p => ∃ b o,p = .cell b o ∧ T b o
structure Kept (w w' : World) (T : Cells) : Prop where
 but : w.keptBut w' (mayOf T)
 frozen : ∀ a,a.block < w.heap.size → w'.frozen? a = w.frozen? a
 size : w.heap.size ≤ w'.heap.size
theorem Kept.refl (w : World) (T : Cells) : Kept w w T:=⟨World.keptBut_refl _ _,fun _ _ => rfl,Nat.le_refl _⟩
theorem Kept.mono {w w' : World} {T T' : Cells} (h : Kept w w' T) (ht : ∀ b o,b < w.heap.size → T b o → T' b o) : Kept w w' T':=by
 refine ⟨⟨h.but.1,h.but.2.1,fun i hi => ?_⟩,h.frozen,h.size⟩
 have:=h.but.2.2 i hi
 split at this
 ·refine ⟨this.1,this.2.1,this.2.2.1,fun j hj => this.2.2.2 j fun hm => hj ?_⟩
  obtain ⟨b,o,e,hT⟩:=hm
  cases e
  exact ⟨_,_,rfl,ht _ _ hi hT⟩
 ·refine orMap this (fun hm => ?_) id
  obtain ⟨b,o,e,_⟩:=hm
  cases e
 ·exact this
theorem Kept.cell {w w' : World} {T : Cells} (h : Kept w w' T) {b o : Nat} (hb : b < w.heap.size) (hT : ¬ T b o) : w'.cell? ⟨b,o,none⟩ = w.cell? ⟨b,o,none⟩ :=
 h.but.cell hb (fun ⟨_,_,e,ht⟩ => by cases e; exact hT ht)
theorem Kept.cell_some {w w' : World} {T : Cells} (h : Kept w w' T) {b o : Nat} {v : Value} (hv : w.cell? ⟨b,o,none⟩ = some v) (hT : ¬ T b o) : w'.cell? ⟨b,o,none⟩ = some v:=by
 rw [h.cell (by simpa using World.block_lt_of_cell? _ _ hv) hT,hv]
theorem zwb7 {w : World} {b : Nat} {c : Array Value} {t : TypeId} {fr : Nat × Nat} (h : w.heap[b]? = some (.cells c t fr)) (o : Nat) : w.cell? ⟨b,o,none⟩ = c[o]?:=by
 simp [World.cell?,h]
theorem Kept.some {w w' : World} {T : Cells} (h : Kept w w' T) {b o : Nat} {v : Value} (hv : w.cell? ⟨b,o,none⟩ = some v) : ∃ u,w'.cell? ⟨b,o,none⟩ = some u:=by
 have hb : b < w.heap.size:=by simpa using World.block_lt_of_cell? _ _ hv
 have hk:=h.but.2.2 b hb
 split at hk
 ·rename_i c t fr c' t' fr' h1 h2
  rw [zwb7 h1] at hv
  rw [zwb7 h2]
  have : o < c'.size:=by
   have:=(Array.getElem?_eq_some_iff.1 hv).1
   omega
  exact ⟨c'[o],by simp [this]⟩
 ·rename_i h1 h2
  simp [World.cell?,h1] at hv
 ·rename_i h1 h2
  refine ⟨v,?_⟩
  unfold World.cell? at hv ⊢
  simp only [hk]
  exact hv
theorem Kept.trans {w w' w'' : World} {T T' U : Cells} (h : Kept w w' T) (h' : Kept w' w'' T') (ht : ∀ b o,b < w.heap.size → T b o → U b o) (ht' : ∀ b o,b < w.heap.size → T' b o → U b o) : Kept w w'' U:=by
 refine ⟨⟨h'.but.1.trans h.but.1,h'.but.2.1.trans h.but.2.1,fun i hi => ?_⟩,fun a ha => (h'.frozen a (Nat.lt_of_lt_of_le ha h.size)).trans (h.frozen a ha),Nat.le_trans h.size h'.size⟩
 have k1:=h.but.2.2 i hi
 have k2:=h'.but.2.2 i (Nat.lt_of_lt_of_le hi h.size)
 have nm : ∀ {V : Cells},¬ mayOf V (.map i):=fun ⟨_,_,e,_⟩ => by cases e
 cases e0 : w.heap[i]? with
 | none => simp [e0] at k1; simp [Array.getElem?_eq_none_iff] at e0; omega
 | some x0 =>
  cases e1 : w'.heap[i]? with
  | none => have:=Nat.lt_of_lt_of_le hi h.size; simp [Array.getElem?_eq_none_iff] at e1; omega
  | some x1 =>
   cases e2 : w''.heap[i]? with
   | none => have:=Nat.lt_of_lt_of_le hi (Nat.le_trans h.size h'.size); simp [Array.getElem?_eq_none_iff] at e2; omega
   | some x2 =>
    rw [e0,e1] at k1
    rw [e1,e2] at k2
    cases x0 with
    | cells c t fr =>
     cases x1 with
     | cells c1 t1 fr1 =>
      cases x2 with
      | cells c2 t2 fr2 =>
       simp only at k1 k2 ⊢
       refine ⟨k2.1.trans k1.1,k2.2.1.trans k1.2.1,k2.2.2.1.trans k1.2.2.1,fun j hj => ?_⟩
       rw [k2.2.2.2 j,k1.2.2.2 j]
       ·rintro ⟨b,o,e,hT⟩; cases e; exact hj ⟨_,_,rfl,ht _ _ hi hT⟩
       ·rintro ⟨b,o,e,hT⟩; cases e; exact hj ⟨_,_,rfl,ht' _ _ hi hT⟩
      | _ => simp at k2
     | _ => simp at k1
    | map es clock =>
     cases x1 with
     | map es1 clock1 =>
      cases x2 with
      | map es2 clock2 =>
       simp only at k1 k2 ⊢
       have k1':=k1.resolve_left nm
       have k2':=k2.resolve_left nm
       exact .inr ⟨k2'.1.trans k1'.1,k2'.2.trans k1'.2⟩
      | _ => simp at k2
     | _ => simp at k1
    | _ => simp_all
theorem Kept.alloc (w : World) (c : Array Value) (t : TypeId) (T : Cells) : Kept w (w.alloc (.cells c t)) T:=by
 refine ⟨⟨rfl,rfl,fun i hi => ?_⟩,fun a ha => ?_,by simp⟩
 ·have : (w.alloc (.cells c t)).heap[i]? = w.heap[i]?:=by
   simp only [World.alloc,Array.getElem?_push]; rw [if_neg (by omega)]
  rw [this]
  exact (World.keptBut_refl w _).2.2 i hi
 ·exact World.frozen?_alloc_old w _ a (Nat.ne_of_lt ha)
theorem Kept.setCells (w : World) (b o : Nat) (vs : List Value) (T : Cells) (hT : ∀ j,j < vs.length → T b (o + j)) : Kept w (w.setCells b o vs) T:=by
 refine ⟨World.keptBut_setCells b vs o w fun j hj => ⟨_,_,rfl,hT j hj⟩,fun a _ => World.frozen?_setCells b vs o w a,?_⟩
 have : ∀ (vs : List Value) (o : Nat) (w : World),(w.setCells b o vs).heap.size = w.heap.size:=by
  intro vs
  induction vs with
  | nil => intro o w; rfl
  | cons v r ih => intro o w; rw [World.setCells,ih,World.size_setCell]
 rw [this]; exact Nat.le_refl _
theorem Kept.drew (w : World) (T : Cells) : Kept w w.drew T :=
 ⟨⟨rfl,rfl,fun i hi => (World.keptBut_refl w _).2.2 i hi⟩,fun _ _ => rfl,Nat.le_refl _⟩
def nc (w : World) (i : Nat) : Prop:=∀ c t fr,w.heap[i]? ≠ some (.cells c t fr)
def clause (w w' : World) (T : Cells) (i : Nat) : Prop :=
 (∃ c c' t fr,w.heap[i]? = some (.cells c t fr) ∧ w'.heap[i]? = some (.cells c' t fr) ∧ c'.size = c.size ∧ ∀ j : Nat,¬ T i j → c'[j]? = c[j]?) ∨ w'.heap[i]? = w.heap[i]?
structure KeptB (w w' : World) (T : Cells) (M : Nat → Prop) : Prop where
 os : w'.os = w.os
 output : w'.output = w.output
 but : ∀ i,i < w.heap.size → ¬ M i → clause w w' T i
 blk : ∀ i,i < w.heap.size → M i → nc w i ∧ nc w' i
 frozen : ∀ a,a.block < w.heap.size → w'.frozen? a = w.frozen? a
 size : w.heap.size ≤ w'.heap.size
theorem Kept.clause {w w' : World} {T : Cells} (h : Kept w w' T) {i : Nat} (hi : i < w.heap.size) : clause w w' T i:=by
 have:=h.but.2.2 i hi
 split at this
 ·rename_i h1 h2
  obtain ⟨rfl,rfl,h3,h4⟩:=this
  exact .inl ⟨_,_,_,_,h1,h2,h3,fun j hj => h4 j fun ⟨b,o,e,ht⟩ => by cases e; exact hj ht⟩
 ·rename_i h1 h2
  rcases this with ⟨b,o,e,_⟩ | ⟨e1,e2⟩
  ·cases e
  ·right; rw [h1,h2,e1,e2]
 ·exact .inr this
theorem Kept.toB {w w' : World} {T : Cells} (h : Kept w w' T) : KeptB w w' T (fun _ => False) :=
 ⟨h.but.1,h.but.2.1,fun i hi _ => h.clause hi,fun _ _ h => h.elim,h.frozen,h.size⟩
theorem KeptB.kept {w w' : World} {T : Cells} {M : Nat → Prop} (h : KeptB w w' T M) (hM : ∀ i,i < w.heap.size → ¬ M i) : Kept w w' T:=by
 refine ⟨⟨h.os,h.output,fun i hi => ?_⟩,h.frozen,h.size⟩
 rcases h.but i hi (hM i hi) with ⟨c,c',t,fr,h1,h2,h3,h4⟩ | h1
 ·rw [h1,h2]
  exact ⟨rfl,rfl,h3,fun j hj => h4 j fun ht => hj ⟨_,_,rfl,ht⟩⟩
 ·rw [h1]
  exact (World.keptBut_refl w _).2.2 i hi
theorem KeptB.refl (w : World) (T : Cells) : KeptB w w T (fun _ => False):=(Kept.refl w T).toB
theorem nc_cell {w : World} {b : Nat} (h : nc w b) (o : Nat) : w.cell? ⟨b,o,none⟩ = none:=by
 unfold World.cell?
 cases e : w.heap[b]? with
 | none => simp [e]
 | some x => cases x <;> simp_all [nc]
theorem clause_cell {w w' : World} {T : Cells} {b o : Nat} (h : clause w w' T b) (hT : ¬ T b o) : w'.cell? ⟨b,o,none⟩ = w.cell? ⟨b,o,none⟩:=by
 rcases h with ⟨c,c',t,fr,h1,h2,h3,h4⟩ | h1
 ·rw [zwb7 h1,zwb7 h2]
  exact h4 o hT
 ·unfold World.cell?
  simp only [h1]
theorem KeptB.cell {w w' : World} {T : Cells} {M : Nat → Prop} (h : KeptB w w' T M) {b o : Nat} (hb : b < w.heap.size) (hT : ¬ T b o) : w'.cell? ⟨b,o,none⟩ = w.cell? ⟨b,o,none⟩:=by
 by_cases hM : M b
 ·rw [nc_cell (h.blk b hb hM).1,nc_cell (h.blk b hb hM).2]
 ·exact clause_cell (h.but b hb hM) hT
theorem KeptB.cell_some {w w' : World} {T : Cells} {M : Nat → Prop} (h : KeptB w w' T M) {b o : Nat} {v : Value} (hv : w.cell? ⟨b,o,none⟩ = some v) (hT : ¬ T b o) : w'.cell? ⟨b,o,none⟩ = some v:=by
 rw [h.cell (by simpa using World.block_lt_of_cell? _ _ hv) hT,hv]
theorem KeptB.heap {w w' : World} {T : Cells} {M : Nat → Prop} (h : KeptB w w' T M) {b : Nat} {o : Go.Obj} (ho : w.heap[b]? = some o) (hn : nc w b) (hM : ¬ M b) : w'.heap[b]? = some o:=by
 have hb : b < w.heap.size:=(Array.getElem?_eq_some_iff.1 ho).1
 rcases h.but b hb hM with ⟨c,c',t,fr,h1,_⟩ | h1
 ·exact absurd h1 (hn _ _ _)
 ·rw [h1,ho]
theorem clause_nc {w w' : World} {T : Cells} {b : Nat} (h : clause w w' T b) (hn : nc w b) : nc w' b:=by
 rcases h with ⟨c,c',t,fr,h1,_⟩ | h1
 ·exact absurd h1 (hn _ _ _)
 ·intro c t fr e
  rw [h1] at e
  exact hn _ _ _ e
theorem KeptB.ncs {w w' : World} {T : Cells} {M : Nat → Prop} (h : KeptB w w' T M) {b : Nat} (hb : b < w.heap.size) (hn : nc w b) : nc w' b:=by
 by_cases hM : M b
 ·exact (h.blk b hb hM).2
 ·exact clause_nc (h.but b hb hM) hn
theorem KeptB.mono {w w' : World} {T T' : Cells} {M : Nat → Prop} (h : KeptB w w' T M) (ht : ∀ b o,b < w.heap.size → T b o → T' b o) : KeptB w w' T' M:=by
 refine ⟨h.os,h.output,fun i hi hM => ?_,h.blk,h.frozen,h.size⟩
 rcases h.but i hi hM with ⟨c,c',t,fr,h1,h2,h3,h4⟩ | h1
 ·exact .inl ⟨c,c',t,fr,h1,h2,h3,fun j hj => h4 j fun hx => hj (ht _ _ hi hx)⟩
 ·exact .inr h1
theorem KeptB.trans {w w' w'' : World} {T T' U : Cells} {M N V : Nat → Prop} (h : KeptB w w' T M) (h' : KeptB w' w'' T' N) (ht : ∀ b o,b < w.heap.size → T b o → U b o) (ht' : ∀ b o,b < w.heap.size → T' b o → U b o)
  (hM : ∀ b,b < w.heap.size → M b → V b) (hN : ∀ b,b < w.heap.size → N b → V b) (hV : ∀ b,b < w.heap.size → V b → nc w b) : KeptB w w'' U V:=by
 refine ⟨h'.os.trans h.os,h'.output.trans h.output,fun i hi hv => ?_,fun i hi hv => ?_,fun a ha => (h'.frozen a (Nat.lt_of_lt_of_le ha h.size)).trans (h.frozen a ha),Nat.le_trans h.size h'.size⟩
 ·have k1:=h.but i hi (fun hm => hv (hM i hi hm))
  have k2:=h'.but i (Nat.lt_of_lt_of_le hi h.size) (fun hn => hv (hN i hi hn))
  rcases k1 with ⟨c,c1,t,fr,a1,a2,a3,a4⟩ | a1
  ·rcases k2 with ⟨c1',c2,t',fr',b1,b2,b3,b4⟩ | b1
   ·rw [a2] at b1
    cases b1
    exact .inl ⟨c,c2,t,fr,a1,b2,by omega,fun j hj => by rw [b4 j (fun x => hj (ht' _ _ hi x)),a4 j (fun x => hj (ht _ _ hi x))]⟩
   ·exact .inl ⟨c,c1,t,fr,a1,by rw [b1,a2],a3,fun j hj => a4 j (fun x => hj (ht _ _ hi x))⟩
  ·rcases k2 with ⟨c1',c2,t',fr',b1,b2,b3,b4⟩ | b1
   ·exact .inl ⟨c1',c2,t',fr',by rw [← a1,b1],b2,b3,fun j hj => b4 j (fun x => hj (ht' _ _ hi x))⟩
   ·exact .inr (b1.trans a1)
 ·have hn:=hV i hi hv
  exact ⟨hn,h'.ncs (Nat.lt_of_lt_of_le hi h.size) (h.ncs hi hn)⟩
theorem Kept.allocN (w : World) (o : Go.Obj) (T : Cells) (ho : ∀ c t fr,o ≠ .cells c t fr) : Kept w (w.alloc o) T:=by
 refine ⟨⟨rfl,rfl,fun i hi => ?_⟩,fun a ha => ?_,by simp⟩
 ·have : (w.alloc o).heap[i]? = w.heap[i]?:=by
   simp only [World.alloc,Array.getElem?_push]; rw [if_neg (by omega)]
  rw [this]
  exact (World.keptBut_refl w _).2.2 i hi
 ·exact World.frozen?_alloc_old w _ a (Nat.ne_of_lt ha)
def Obj.own : Obj → Bool
 | .arr _ _ fz _ => !fz
 | .blk _ => false
 | _ => true
def EntsOK (C : Ctx) : List (Dat × AVal) → List MapEntry → Prop
 | [],ens => ens = []
 | e :: r,ens => ∃ en ens',ens = en :: ens' ∧ RepV C.F e.1 en.key ∧ RepA C e.2 en.val ∧ EntsOK C r ens'
def codeOf : AEx → Option Code
 | .normal => none
 | .exit id => some (.exit id)
 | .ret => some .ret
def BornOK (ens : Array MapEntry) (clock : Nat) : Prop:=(∀ x ∈ ens.toList,x.born < clock) ∧ (ens.toList.map (·.born)).Nodup
theorem bornOK_nil : BornOK #[] 0:=⟨by simp,by simp⟩
theorem BornOK.modify {ens : Array MapEntry} {clock : Nat} (h : BornOK ens clock) (i : Nat) (f : MapEntry → MapEntry) (hf : ∀ e,(f e).born = e.born) : BornOK (ens.modify i f) clock:=by
 have e : (ens.modify i f).toList.map (·.born) = ens.toList.map (·.born):=by
  apply List.ext_getElem?
  intro j
  simp only [Array.toList_modify,List.getElem?_map,List.getElem?_modify]
  cases ens.toList[j]? with
  | none => simp
  | some x => by_cases hij : i = j <;> simp [hij,hf]
 have hb : ∀ x,x ∈ (ens.modify i f).toList.map (·.born) → x < clock:=by
  rw [e]
  intro x hx
  obtain ⟨y,hy,rfl⟩:=List.mem_map.1 hx
  exact h.1 y hy
 exact ⟨fun x hx => hb _ (List.mem_map.2 ⟨x,hx,rfl⟩),by rw [e]; exact h.2⟩
theorem BornOK.push {ens : Array MapEntry} {clock : Nat} (h : BornOK ens clock) (x : MapEntry) (hx : x.born = clock) : BornOK (ens.push x) (clock + 1):=by
 constructor
 ·intro y hy
  simp only [Array.toList_push,List.mem_append,List.mem_singleton] at hy
  rcases hy with hy | rfl
  ·have:=h.1 y hy; omega
  ·omega
 ·simp only [Array.toList_push,List.map_append,List.map_cons,List.map_nil]
  rw [List.nodup_append]
  refine ⟨h.2,by simp,?_⟩
  intro a ha b hb
  simp only [List.mem_singleton] at hb
  obtain ⟨y,hy,rfl⟩:=List.mem_map.1 ha
  have:=h.1 y hy
  omega
def BlkOK (C : Ctx) (b : Nat) : Blk → Prop
 | .map es => ∃ ens clock,C.w.heap[b]? = some (.map ens clock) ∧ BornOK ens clock ∧ EntsOK C es ens.toList
 | .loop k st env => ∃ r : Go.Loop,C.w.heap[b]? = some (.loop r) ∧ Glob.lps k = some (r.tmps.size,r.params,r.assign,r.body) ∧
   (match st with | .ready => r.state = .ready ∧ r.pending = none | .busy => r.state = .busy | .done e => r.state = .done ∧ r.pending = codeOf e ∧ e ≠ .normal) ∧
   ∀ p ∈ env,RepA C p.2 (r.tmps.getD p.1 undef)
 | .dead => ∃ r : Go.Loop,C.w.heap[b]? = some (.loop r)
def OwnOK (C : Ctx) (L : Loc) : Prop :=
 ∀ j,j < L.n → (∃ v,C.w.cell? ⟨L.b,L.o + j,none⟩ = some v) ∧ C.w.frozen? ⟨L.b,L.o + j,none⟩ = false ∧ C.F L.b (L.o + j) = none
def ObjOK (C : Ctx) (L : Loc) : Obj → Prop
 | .box cs => L.n = cs.length ∧ cs.all AVal.leaf = true ∧ OwnOK C L ∧
   ∀ (j : Nat) (a : AVal),cs[j]? = some a → ∃ v,C.w.cell? ⟨L.b,L.o + j,none⟩ = some v ∧ RepA C a v
 | .arr sz ver fz es => 1 ≤ sz ∧ (∃ cap,L.n = cap * sz ∧ es.length ≤ cap) ∧
   (fz = false → OwnOK C L ∧ ∀ (i : Nat) (d : Dat),es[i]? = some d → ∃ cs,cs.length = sz ∧ RepD C.F d cs ∧ ∀ (j : Nat) (v : Value),cs[j]? = some v → C.w.cell? ⟨L.b,L.o + i * sz + j,none⟩ = some v) ∧
   (fz = true → RowD C.F es L.b L.o sz)
 | .rarr sz ver es => 1 ≤ sz ∧ (∃ cap,L.n = cap * sz ∧ es.length ≤ cap) ∧ (∀ row ∈ es,row.length = sz ∧ row.all AVal.leaf = true) ∧ OwnOK C L ∧
   ∀ (i : Nat) (row : List AVal),es[i]? = some row → ∀ (j : Nat) (a : AVal),row[j]? = some a → ∃ v,C.w.cell? ⟨L.b,L.o + i * sz + j,none⟩ = some v ∧ RepA C a v
 | .blk x => L.n = 0 ∧ BlkOK C L.b x
theorem BlkOK.nc {C : Ctx} {b : Nat} {x : Blk} (h : BlkOK C b x) : b < C.w.heap.size ∧ nc C.w b:=by
 cases x with
 | map es => obtain ⟨ens,clock,h1,_⟩:=h; exact ⟨(Array.getElem?_eq_some_iff.1 h1).1,fun c t fr e => by rw [h1] at e; cases e⟩
 | loop k st env => obtain ⟨r,h1,_⟩:=h; exact ⟨(Array.getElem?_eq_some_iff.1 h1).1,fun c t fr e => by rw [h1] at e; cases e⟩
 | dead => obtain ⟨r,h1⟩:=h; exact ⟨(Array.getElem?_eq_some_iff.1 h1).1,fun c t fr e => by rw [h1] at e; cases e⟩
theorem EntsOK.mono {C C' : Ctx} (h : Grow C C') : ∀ {es : List (Dat × AVal)} {ens : List MapEntry},EntsOK C es ens → EntsOK C' es ens
 | [],_,he => he
 | e :: r,ens,he => by
  simp only [EntsOK] at he ⊢
  obtain ⟨en,ens',h1,h2,h3,h4⟩:=he
  exact ⟨en,ens',h1,h2.mono h.F,h3.grow h,EntsOK.mono h h4⟩
structure Base where
 w : World
 F : Froz
 O : Cells
 M : Nat → Prop
 ds : List Nat:=[]
structure Inv (B : Base) (C : Ctx) : Prop where
 objs : ∀ id o,C.ρ id = some o → ObjOK C (C.μ id) o
 disj : ∀ id id' o o',C.ρ id = some o → C.ρ id' = some o' → o.own = true → o'.own = true → id ≠ id' →
  ∀ j j',j < (C.μ id).n → j' < (C.μ id').n → ¬ ((C.μ id).b = (C.μ id').b ∧ (C.μ id).o + j = (C.μ id').o + j')
 own : ∀ id o,C.ρ id = some o → o.own = true → ∀ j,j < (C.μ id).n → B.O (C.μ id).b ((C.μ id).o + j) ∨ B.w.heap.size ≤ (C.μ id).b
 bdisj : ∀ id id' x x',C.ρ id = some (.blk x) → C.ρ id' = some (.blk x') → id ≠ id' → (C.μ id).b ≠ (C.μ id').b
 bown : ∀ id x,C.ρ id = some (.blk x) → B.M (C.μ id).b ∨ B.w.heap.size ≤ (C.μ id).b
 kept : KeptB B.w C.w B.O B.M
 Fw : ∀ b o v,C.F b o = some v → C.w.cell? ⟨b,o,none⟩ = some v
 Fsub : B.F.le C.F
 Fnew : ∀ b o v,C.F b o = some v → B.F b o = some v ∨ B.O b o ∨ B.w.heap.size ≤ b
theorem ObjOK.ownOK {C : Ctx} {L : Loc} {o : Obj} (h : ObjOK C L o) (ho : o.own = true) : OwnOK C L:=by
 cases o with
 | box cs => exact h.2.2.1
 | arr sz ver fz es =>
  simp only [Obj.own,Bool.not_eq_true'] at ho
  exact (h.2.2.1 ho).1
 | rarr sz ver es => exact h.2.2.2.1
 | blk x => simp [Obj.own] at ho
theorem ObjOK.keep {C C' : Ctx} {L : Loc} {o : Obj} {T : Cells} {N : Nat → Prop} (h : ObjOK C L o) (hg : Grow C C') (hk : KeptB C.w C'.w T N) (hFn : ∀ b o v,C'.F b o = some v → C.F b o = some v ∨ C.w.heap.size ≤ b ∨ T b o)
  (hT : o.own = true → ∀ j,j < L.n → ¬ T L.b (L.o + j)) (hN : ∀ x,o = .blk x → ¬ N L.b) : ObjOK C' L o:=by
 have hown : o.own = true → OwnOK C' L:=by
  intro ho j hj
  obtain ⟨⟨v,hv⟩,hf,hF⟩:=h.ownOK ho j hj
  refine ⟨⟨v,hk.cell_some hv (hT ho j hj)⟩,by rw [hk.frozen _ (World.block_lt_of_cell? _ _ hv)]; exact hf,?_⟩
  cases e : C'.F L.b (L.o + j) with
  | none => rfl
  | some u =>
   rcases hFn _ _ _ e with h1 | h1 | h1
   ·rw [hF] at h1; cases h1
   ·have:=World.block_lt_of_cell? _ _ hv; simp at this; omega
   ·exact absurd h1 (hT ho j hj)
 cases o with
 | blk x =>
  obtain ⟨h0,h1⟩:=h
  refine ⟨h0,?_⟩
  have hb:=h1.nc
  have hx:=hN x rfl
  cases x with
  | map es =>
   obtain ⟨ens,clock,e1,eb,e2⟩:=h1
   exact ⟨ens,clock,hk.heap e1 hb.2 hx,eb,e2.mono hg⟩
  | loop k st env =>
   obtain ⟨r,e1,e2,e3,e4⟩:=h1
   exact ⟨r,hk.heap e1 hb.2 hx,e2,e3,fun p hp => (e4 p hp).grow hg⟩
  | dead => obtain ⟨r,e1⟩:=h1; exact ⟨r,hk.heap e1 hb.2 hx⟩
 | box cs =>
  refine ⟨h.1,h.2.1,hown rfl,fun j a ha => ?_⟩
  obtain ⟨v,hv,hr⟩:=h.2.2.2 j a ha
  have hj : j < L.n:=by rw [h.1]; exact (List.getElem?_eq_some_iff.1 ha).1
  exact ⟨v,hk.cell_some hv (hT rfl j hj),hr.grow hg⟩
 | rarr sz ver es =>
  obtain ⟨h1,⟨cap,h2,h2'⟩,h3,h4,h5⟩:=h
  refine ⟨h1,⟨cap,h2,h2'⟩,h3,hown rfl,fun i row hrow j a ha => ?_⟩
  obtain ⟨v,hv,hr⟩:=h5 i row hrow j a ha
  have hi : i < es.length:=(List.getElem?_eq_some_iff.1 hrow).1
  have hj : j < sz:=by rw [← (h3 row (List.mem_of_getElem? hrow)).1]; exact (List.getElem?_eq_some_iff.1 ha).1
  have hlt : i * sz + j < L.n:=by
   rw [h2]
   calc i * sz + j < i * sz + sz:=by omega
    _ = (i + 1) * sz:=by rw [Nat.add_mul]; omega
    _ ≤ cap * sz:=Nat.mul_le_mul_right _ (by omega)
  have:=hT rfl (i * sz + j) hlt
  exact ⟨v,hk.cell_some hv (by rwa [Nat.add_assoc]),hr.grow hg⟩
 | arr sz ver fz es =>
  obtain ⟨h1,⟨cap,h2,h2'⟩,h3,h4⟩:=h
  refine ⟨h1,⟨cap,h2,h2'⟩,fun e => ?_,fun e => RowD.mono hg.F _ _ _ _ (h4 e)⟩
  have ho : (Obj.arr sz ver fz es).own = true:=by simp [Obj.own,e]
  refine ⟨hown ho,fun i d hd => ?_⟩
  obtain ⟨cs,h5,h6,h7⟩:=(h3 e).2 i d hd
  refine ⟨cs,h5,RepD.mono hg.F _ _ h6,fun j v hv => ?_⟩
  have hi : i < es.length:=(List.getElem?_eq_some_iff.1 hd).1
  have hj : j < sz:=by rw [← h5]; exact (List.getElem?_eq_some_iff.1 hv).1
  have hlt : i * sz + j < L.n:=by
   rw [h2]
   calc i * sz + j < i * sz + sz:=by omega
    _ = (i + 1) * sz:=by rw [Nat.add_mul]; omega
    _ ≤ cap * sz:=Nat.mul_le_mul_right _ (by omega)
  have:=hT ho (i * sz + j) hlt
  exact hk.cell_some (h7 j v hv) (by rwa [Nat.add_assoc])
theorem Inv.stepB {B : Base} {C C' : Ctx} (h : Inv B C) (id : Id) (T : Cells) (N : Nat → Prop)
  (hT : ∀ b o,T b o → ∃ ob,C.ρ id = some ob ∧ ob.own = true ∧ ∃ j,j < (C.μ id).n ∧ b = (C.μ id).b ∧ o = (C.μ id).o + j)
  (hk : KeptB C.w C'.w T N)
  (hN : ∀ b,N b → ∃ x,C.ρ id = some (.blk x) ∧ b = (C.μ id).b)
  (hFn : ∀ b o v,C'.F b o = some v → C.F b o = some v ∨ C.w.heap.size ≤ b ∨ T b o)
  (hFw : ∀ b o v,C'.F b o = some v → C.F b o = none → C'.w.cell? ⟨b,o,none⟩ = some v)
  (hρ : ∀ id',id' ≠ id → C'.ρ id' = C.ρ id' ∧ C'.μ id' = C.μ id')
  (hg : Grow C C')
  (hnew : ∀ o',C'.ρ id = some o' → ObjOK C' (C'.μ id) o')
  (hloc : ∀ o',C'.ρ id = some o' → o'.own = true → C.w.heap.size ≤ (C'.μ id).b ∨ (C'.μ id).n = 0 ∨ (∃ o,C.ρ id = some o ∧ o.own = true ∧ C'.μ id = C.μ id))
  (hblk : ∀ x,C'.ρ id = some (.blk x) → C.w.heap.size ≤ (C'.μ id).b ∨ (∃ x',C.ρ id = some (.blk x') ∧ C'.μ id = C.μ id)) :
  Inv B C':=by
 have blkLt : ∀ id x,C.ρ id = some (.blk x) → (C.μ id).b < C.w.heap.size ∧ nc C.w (C.μ id).b:=fun id x hx => (h.objs id _ hx).2.nc
 have cellOf : ∀ id o,C.ρ id = some o → o.own = true → ∀ j,j < (C.μ id).n → (C.μ id).b < C.w.heap.size:=by
  intro id o ho hw j hj
  obtain ⟨⟨v,hv⟩,_⟩:=(h.objs id o ho).ownOK hw j hj
  simpa using World.block_lt_of_cell? _ _ hv
 have notT : ∀ id' o',id' ≠ id → C.ρ id' = some o' → o'.own = true → ∀ j,j < (C.μ id').n → ¬ T (C.μ id').b ((C.μ id').o + j):=by
  intro id' o' hne ho' hw' j hj hTT
  obtain ⟨ob,ho,hw,j0,hj0,hb,hoo⟩:=hT _ _ hTT
  exact h.disj id' id o' ob ho' ho hw' hw hne j j0 hj hj0 ⟨hb,hoo⟩
 have TF : ∀ b o,T b o → C.F b o = none:=by
  intro b o hTT
  obtain ⟨ob,ho,hw,j0,hj0,rfl,rfl⟩:=hT _ _ hTT
  exact ((h.objs id ob ho).ownOK hw j0 hj0).2.2
 have TO : ∀ b o,T b o → B.O b o ∨ B.w.heap.size ≤ b:=by
  intro b o hTT
  obtain ⟨ob,ho,hw,j0,hj0,rfl,rfl⟩:=hT _ _ hTT
  exact h.own id ob ho hw j0 hj0
 refine ⟨fun id' o' ho' => ?_,fun i1 i2 o1 o2 ho1 ho2 hw1 hw2 hne j1 j2 hj1 hj2 => ?_,fun id' o' ho' hw' j hj => ?_,fun i1 i2 x1 x2 hx1 hx2 hne => ?_,fun i x hx => ?_,?_,fun b o v hv => ?_,fun b o v hv => hg.F _ _ _ (h.Fsub _ _ _ hv),fun b o v hv => ?_⟩
 ·by_cases e : id' = id
  ·subst e; exact hnew o' ho'
  ·obtain ⟨e1,e2⟩:=hρ id' e
   rw [e1] at ho'
   rw [e2]
   refine (h.objs id' o' ho').keep hg hk hFn (fun hw => notT id' o' e ho' hw) fun x hx hNx => ?_
   subst hx
   obtain ⟨x',h1,h2⟩:=hN _ hNx
   exact h.bdisj id' id x x' ho' h1 e h2
 ·by_cases e1 : i1 = id
  ·have e2 : i2 ≠ id:=fun e2 => hne (e1.trans e2.symm)
   obtain ⟨q1,q2⟩:=hρ i2 e2
   rw [q1] at ho2
   rw [q2] at hj2 ⊢
   subst e1
   rcases hloc o1 ho1 hw1 with hl | hl | ⟨o,hl1,hl2,hl3⟩
   ·intro ⟨hb,_⟩
    have:=cellOf i2 o2 ho2 hw2 j2 hj2
    omega
   ·omega
   ·rw [hl3] at hj1 ⊢
    exact h.disj i1 i2 o o2 hl1 ho2 hl2 hw2 hne j1 j2 hj1 hj2
  ·obtain ⟨q1,q2⟩:=hρ i1 e1
   rw [q1] at ho1
   rw [q2] at hj1 ⊢
   by_cases e2 : i2 = id
   ·subst e2
    rcases hloc o2 ho2 hw2 with hl | hl | ⟨o,hl1,hl2,hl3⟩
    ·intro ⟨hb,_⟩
     have:=cellOf i1 o1 ho1 hw1 j1 hj1
     omega
    ·omega
    ·rw [hl3] at hj2 ⊢
     exact h.disj i1 i2 o1 o ho1 hl1 hw1 hl2 hne j1 j2 hj1 hj2
   ·obtain ⟨q3,q4⟩:=hρ i2 e2
    rw [q3] at ho2
    rw [q4] at hj2 ⊢
    exact h.disj i1 i2 o1 o2 ho1 ho2 hw1 hw2 hne j1 j2 hj1 hj2
 ·by_cases e : id' = id
  ·subst e
   rcases hloc o' ho' hw' with hl | hl | ⟨o,hl1,hl2,hl3⟩
   ·exact .inr (Nat.le_trans h.kept.size hl)
   ·omega
   ·rw [hl3] at hj ⊢
    exact h.own id' o hl1 hl2 j hj
  ·obtain ⟨q1,q2⟩:=hρ id' e
   rw [q1] at ho'
   rw [q2] at hj ⊢
   exact h.own id' o' ho' hw' j hj
 ·by_cases e1 : i1 = id
  ·have e2 : i2 ≠ id:=fun e2 => hne (e1.trans e2.symm)
   obtain ⟨q1,q2⟩:=hρ i2 e2
   rw [q1] at hx2
   rw [q2]
   subst e1
   rcases hblk x1 hx1 with hl | ⟨x',hl1,hl2⟩
   ·have:=(blkLt i2 x2 hx2).1; omega
   ·rw [hl2]; exact h.bdisj i1 i2 x' x2 hl1 hx2 hne
  ·obtain ⟨q1,q2⟩:=hρ i1 e1
   rw [q1] at hx1
   rw [q2]
   by_cases e2 : i2 = id
   ·subst e2
    rcases hblk x2 hx2 with hl | ⟨x',hl1,hl2⟩
    ·have:=(blkLt i1 x1 hx1).1; omega
    ·rw [hl2]; exact h.bdisj i1 i2 x1 x' hx1 hl1 hne
   ·obtain ⟨q3,q4⟩:=hρ i2 e2
    rw [q3] at hx2
    rw [q4]
    exact h.bdisj i1 i2 x1 x2 hx1 hx2 hne
 ·by_cases e : i = id
  ·subst e
   rcases hblk x hx with hl | ⟨x',hl1,hl2⟩
   ·exact .inr (Nat.le_trans h.kept.size hl)
   ·rw [hl2]; exact h.bown i x' hl1
  ·obtain ⟨q1,q2⟩:=hρ i e
   rw [q1] at hx
   rw [q2]
   exact h.bown i x hx
 ·refine h.kept.trans hk (fun _ _ _ h => h) (fun b o hb hTT => ?_) (fun _ _ h => h) (fun b hb hNb => ?_) fun b hb hM => (h.kept.blk b hb hM).1
  ·rcases TO b o hTT with h1 | h1
   ·exact h1
   ·omega
  ·obtain ⟨x,h1,h2⟩:=hN b hNb
   rcases h.bown id x h1 with h3 | h3
   ·rw [h2]; exact h3
   ·omega
 ·cases e : C.F b o with
  | none => exact hFw b o v hv e
  | some u =>
   have:=hg.F _ _ _ e
   rw [hv] at this
   cases this
   exact hk.cell_some (h.Fw _ _ _ e) (fun hTT => by rw [TF _ _ hTT] at e; cases e)
 ·rcases hFn b o v hv with h1 | h1 | h1
  ·exact h.Fnew _ _ _ h1
  ·exact .inr (.inr (Nat.le_trans h.kept.size h1))
  ·exact .inr (TO _ _ h1)
theorem Inv.step {B : Base} {C C' : Ctx} (h : Inv B C) (id : Id) (T : Cells)
  (hT : ∀ b o,T b o → ∃ ob,C.ρ id = some ob ∧ ob.own = true ∧ ∃ j,j < (C.μ id).n ∧ b = (C.μ id).b ∧ o = (C.μ id).o + j)
  (hk : Kept C.w C'.w T)
  (hFn : ∀ b o v,C'.F b o = some v → C.F b o = some v ∨ C.w.heap.size ≤ b ∨ T b o)
  (hFw : ∀ b o v,C'.F b o = some v → C.F b o = none → C'.w.cell? ⟨b,o,none⟩ = some v)
  (hρ : ∀ id',id' ≠ id → C'.ρ id' = C.ρ id' ∧ C'.μ id' = C.μ id')
  (hg : Grow C C')
  (hnew : ∀ o',C'.ρ id = some o' → ObjOK C' (C'.μ id) o')
  (hloc : ∀ o',C'.ρ id = some o' → o'.own = true → C.w.heap.size ≤ (C'.μ id).b ∨ (C'.μ id).n = 0 ∨ (∃ o,C.ρ id = some o ∧ o.own = true ∧ C'.μ id = C.μ id))
  (hblk : ∀ x,C'.ρ id = some (.blk x) → C.w.heap.size ≤ (C'.μ id).b ∨ (∃ x',C.ρ id = some (.blk x') ∧ C'.μ id = C.μ id)) :
  Inv B C' :=
 h.stepB id T (fun _ => False) hT hk.toB (fun _ h => h.elim) hFn hFw hρ hg hnew hloc hblk
theorem Inv.plain {B : Base} {C C' : Ctx} (h : Inv B C) (hk : Kept C.w C'.w (fun _ _ => False))
  (hF : C.F.le C'.F) (hFn : ∀ b o v,C'.F b o = some v → C.F b o = some v ∨ C.w.heap.size ≤ b)
  (hFw : ∀ b o v,C'.F b o = some v → C.F b o = none → C'.w.cell? ⟨b,o,none⟩ = some v)
  (hρ : C'.ρ = C.ρ) (hμ : C'.μ = C.μ) : Inv B C' ∧ Grow C C':=by
 have hg : Grow C C':=⟨hF,fun id L _ hb => by simpa [boxAt,hρ,hμ] using hb,fun id A _ ha => ⟨A,by simpa [arrAt,hρ,hμ] using ha,Nat.le_refl _,fun _ => ⟨rfl,rfl,Nat.le_refl _⟩⟩,fun id b _ hb => by simpa [blkAt,hρ,hμ] using hb⟩
 refine ⟨?_,hg⟩
 refine h.step ((0,0),0,0) (fun _ _ => False) (fun _ _ h => h.elim) hk (fun b o v hv => orMap (hFn b o v hv) id .inl) hFw (fun _ _ => by simp [hρ,hμ]) hg ?_ ?_ fun x hx => .inr ⟨x,by rw [← hρ]; exact hx,by rw [hμ]⟩
 ·intro o' ho'
  rw [hρ] at ho'
  rw [hμ]
  exact (h.objs _ o' ho').keep hg hk.toB (fun b o v hv => orMap (hFn b o v hv) id .inl) (fun _ _ _ => id) (fun _ _ h => h)
 ·intro o' ho' hw'
  rw [hρ] at ho'
  exact .inr (.inr ⟨o',ho',hw',by rw [hμ]⟩)
theorem Inv.drew {B : Base} {C : Ctx} (h : Inv B C) : Inv B { C with w:=C.w.drew } ∧ Grow C { C with w:=C.w.drew } :=
 h.plain (C':={ C with w:=C.w.drew }) (Kept.drew _ _) (fun _ _ _ h => h) (fun _ _ _ h => .inl h) (fun b o v hv e => by simp only at hv; rw [e] at hv; cases hv) rfl rfl
def Froz.add (F : Froz) (b : Nat) (cs : List Value) : Froz:=fun b' o => if b' = b then cs[o]? else F b' o
theorem Inv.allocF {B : Base} {C : Ctx} (h : Inv B C) (cs : Array Value) (t : TypeId) :
  let C' : Ctx:={ C with w:=C.w.alloc (.cells cs t),F:=C.F.add C.w.heap.size cs.toList }
  Inv B C' ∧ Grow C C':=by
 have hnone : ∀ o,C.F C.w.heap.size o = none:=by
  intro o
  cases e : C.F C.w.heap.size o with
  | none => rfl
  | some v => have:=World.block_lt_of_cell? _ _ (h.Fw _ _ _ e); simp at this
 refine h.plain (C':={ C with w:=C.w.alloc (.cells cs t),F:=C.F.add C.w.heap.size cs.toList }) (Kept.alloc _ _ _ _) (fun b o v hv => ?_) (fun b o v hv => ?_) (fun b o v hv e => ?_) rfl rfl
 ·simp only [Froz.add]
  split
  ·rename_i e; subst e; rw [hnone] at hv; cases hv
  ·exact hv
 ·simp only [Froz.add] at hv
  split at hv
  ·rename_i e; subst e; exact .inr (Nat.le_refl _)
  ·exact .inl hv
 ·simp only [Froz.add] at hv
  split at hv
  ·rename_i e'; subst e'; simpa using hv
  ·rw [e] at hv; cases hv
theorem cellsAt_add (F : Froz) (b : Nat) (cs : List Value) : cellsAt (F.add b cs) b 0 cs:=by
 intro j v hj
 simp [Froz.add,hj]
theorem newVer_lt {ρ : Look} {id : Id} {nv : Nat} (h : zhb7 ρ id = some nv) : (∀ cs,ρ id ≠ some (.box cs)) ∧ (∀ sz v fz es,ρ id = some (.arr sz v fz es) → v < nv) ∧ (∀ sz v es,ρ id = some (.rarr sz v es) → v < nv) ∧ (∀ x,ρ id ≠ some (.blk x)):=by
 unfold zhb7 at h
 cases e : ρ id with
 | none => simp
 | some o =>
  cases o with
  | box cs => simp [e] at h
  | arr sz v fz es =>
   simp [e] at h
   refine ⟨by simp,fun sz' v' fz' es' q => ?_,by simp,by simp⟩
   cases q
   omega
  | blk x => simp [e] at h
  | rarr sz v es =>
   simp [e] at h
   refine ⟨by simp,by simp,fun sz' v' es' q => ?_,by simp⟩
   cases q
   omega
theorem Inv.allocO {B : Base} {C : Ctx} (h : Inv B C) (w' : World) (hk : Kept C.w w' (fun _ _ => False)) (id : Id) (o : Obj) (L : Loc)
  (hold : (∀ cs,C.ρ id ≠ some (.box cs)) ∧ (∀ x,C.ρ id ≠ some (.blk x)) ∧ ∀ A,arrAt C id = some A → match o with
   | .box _ => False
   | .arr _ v _ _ => A.ver < v
   | .rarr _ v _ => A.ver < v
   | .blk _ => False)
  (hL : C.w.heap.size ≤ L.b ∨ L.n = 0) (hB : ∀ x,o = .blk x → C.w.heap.size ≤ L.b)
  (hobj : ∀ (C' : Ctx),C'.w = w' → C'.F = C.F → Grow C C' → ObjOK C' L o) :
  let C' : Ctx:={ w:=w',F:=C.F,μ:=fun i => if i = id then L else C.μ i,ρ:=fun i => if i = id then some o else C.ρ i }
  Inv B C' ∧ Grow C C' ∧ C'.ρ = updL C.ρ [(id,o)]:=by
 intro C'
 have hg : Grow C C':=by
  refine ⟨fun _ _ _ h => h,fun i M _ hb => ?_,fun i A _ ha => ?_,fun i b _ hb => ?_⟩
  ·by_cases e : i = id
   ·subst e
    unfold boxAt at hb
    cases e' : C.ρ i with
    | none => simp [e'] at hb
    | some ob => cases ob <;> simp [e'] at hb; exact absurd e' (hold.1 _)
   ·simpa [boxAt,C',e] using hb
  ·by_cases e : i = id
   ·subst e
    have:=hold.2.2 A ha
    cases o with
    | box cs => exact this.elim
    | blk x => exact this.elim
    | arr sz v fz es => exact ⟨⟨v,sz,es.length,L⟩,by simp [arrAt,C'],Nat.le_of_lt this,fun e => absurd e (by simp only at this ⊢; omega)⟩
    | rarr sz v es => exact ⟨⟨v,sz,es.length,L⟩,by simp [arrAt,C'],Nat.le_of_lt this,fun e => absurd e (by simp only at this ⊢; omega)⟩
   ·exact ⟨A,by simpa [arrAt,C',e] using ha,Nat.le_refl _,fun _ => ⟨rfl,rfl,Nat.le_refl _⟩⟩
  ·by_cases e : i = id
   ·subst e
    unfold blkAt at hb
    cases e' : C.ρ i with
    | none => simp [e'] at hb
    | some ob => cases ob <;> simp [e'] at hb; exact absurd e' (hold.2.1 _)
   ·simpa [blkAt,C',e] using hb
 refine ⟨?_,hg,?_⟩
 ·refine h.step id (fun _ _ => False) (fun _ _ h => h.elim) hk (fun b o v hv => .inl hv) (fun b o v hv e => by simp only [C'] at hv; rw [e] at hv; cases hv) (fun i hi => by simp [C',hi]) hg ?_ ?_ fun x hx => .inl ?_
  ·intro o' ho'
   have : o' = o:=by simpa [C'] using ho'.symm
   subst this
   have e : C'.μ id = L:=by simp [C']
   rw [e]
   exact hobj C' rfl rfl hg
  ·intro o' _ _
   have e : C'.μ id = L:=by simp [C']
   rw [e]
   exact orMap hL (fun x => x) .inl
  ·have e : C'.μ id = L:=by simp [C']
   rw [e]
   exact hB x (by simpa [C'] using hx)
 ·funext i
  by_cases e : i = id
  ·subst e; simp [C',updL]
  ·have e' : ¬ id = i:=fun x => e x.symm
   simp [C',updL,e,e']
end Go.Am

namespace Go.Am
variable [Glob]
def Does (P : Program) (o : Oper) (a : Act) (w : World) (Φ : Value → World → Prop) : Prop :=
 (∃ val w',(execOp a.eval o).run P w = .ok (.value val) w' ∧ Φ val w') ∨
 (∃ w',(execOp a.eval o).run P w = .ok .skip w' ∧ Φ undef w') ∨
 (∃ f args,(execOp a.eval o).run P w = .ok (.enter f args) w ∧ Calls P f args w fun e w' => ∃ val,e = .returned val ∧ Φ val w') ∨
 (∃ l f tmps assign body,(execOp a.eval o).run P w = .ok (.round l f tmps assign body) w ∧ RoundIn Fence.wide 0 P l f tmps assign body w fun e w' => ∃ val,e = .returned val ∧ Φ val w')
abbrev fR (r : Option Nat) : Fence:={ Fence.wide with round:=r }
theorem Does.wp {P : Program} {o : Oper} {a : Act} {w : World} {Φ : Value → World → Prop} {next : Act → World → Prop} {Q : Exit → Act → World → Prop} {r : Option Nat} (hd : ∀ c,o.op ≠ .defer c)
  (h : Does P o a w Φ) (hn : ∀ val w',Φ val w' → next (a.put o.dst val) w') : o.wpIn (fR r) 0 P a w next Q:=by
 refine ⟨fun _ _ => trivial,?_⟩
 rw [Oper.semAt_eq _ _ _ hd]
 rcases h with ⟨val,w',hr,hp⟩ | ⟨w',hr,hp⟩ | ⟨f,args,hr,hc⟩ | ⟨l,f,tmps,avs,bd,hr,hc⟩
 ·rw [hr]; exact hn _ _ hp
 ·rw [hr]; exact hn _ _ hp
 ·rw [hr]
  refine ⟨(fun h => by cases h),?_⟩
  have hc' : CallsIn (fR r) (0 - 1) P f args w fun e w' => ∃ val,e = .returned val ∧ Φ val w':=callsIn_wide.2 hc
  exact hc'.mono fun e w' ⟨val,he,hp⟩ => by subst he; exact hn _ _ hp
 ·rw [hr]
  refine ⟨(fun h => by cases h),?_⟩
  have hc' : RoundIn (fR r) (0 - 1) P l f tmps avs bd w fun e w' => ∃ val,e = .returned val ∧ Φ val w':=hc
  exact hc'.mono fun e w' ⟨val,he,hp⟩ => by subst he; exact hn _ _ hp
theorem Does.mono {P : Program} {o : Oper} {a : Act} {w : World} {Φ Φ' : Value → World → Prop} (h : Does P o a w Φ) (hp : ∀ v w',Φ v w' → Φ' v w') : Does P o a w Φ':=by
 rcases h with ⟨val,w',hr,h⟩ | ⟨w',hr,h⟩ | ⟨f,args,hr,hc⟩ | ⟨l,f,tmps,avs,bd,hr,hc⟩
 ·exact .inl ⟨val,w',hr,hp _ _ h⟩
 ·exact .inr (.inl ⟨w',hr,hp _ _ h⟩)
 ·exact .inr (.inr (.inl ⟨f,args,hr,hc.mono fun e w' ⟨val,he,h⟩ => ⟨val,he,hp _ _ h⟩⟩))
 ·exact .inr (.inr (.inr ⟨l,f,tmps,avs,bd,hr,hc.mono fun e w' ⟨val,he,h⟩ => ⟨val,he,hp _ _ h⟩⟩))
def Owes (B : Base) (C : Ctx) (v : AVal) (upd : List (Id × Obj)) (val : Value) (w' : World) : Prop :=
 ∃ C' : Ctx,C'.w = w' ∧ C'.ρ = updL C.ρ upd ∧ Inv B C' ∧ Grow C C' ∧ RepA C' v val
theorem zka7 {P : Program} {o : Oper} {a : Act} {B : Base} {C : Ctx} {v : AVal} {val : Value} (h : Inv B C)
  (hr : (execOp a.eval o).run P C.w = .ok (.value val) C.w) (hv : RepA C v val) : Does P o a C.w (Owes B C v []) :=
 .inl ⟨val,C.w,hr,C,rfl,rfl,h,Grow.refl C,hv⟩
structure RepE (C : Ctx) (g : Nat → AVal) (a : Act) : Prop where
 env : ∀ t,RepA C (g t) (a.tmps.getD t undef)
 glob : GlobOK C.F
theorem cst_rep {C : Ctx} {v : Value} {x : AVal} (h : cst v = some x) : RepA C x v ∧ x.leaf = true:=by
 unfold cst at h
 split at h <;> simp at h <;> subst h
 ·exact ⟨by simp [RepA,RepV,RepD,Value.cells,zfc7],by simp⟩
 ·exact ⟨by simp [RepA,RepV,RepD,Value.cells,zfc7],by simp⟩
 ·exact ⟨by simp [RepA,RepV,RepD,Value.cells,zfc7],by simp⟩
 ·exact ⟨by simp [RepA],by simp⟩
 ·exact ⟨by simp [RepA],by simp⟩
 ·exact ⟨by simp [RepA,Value.oneCell',zfc7],by simp⟩
 ·exact ⟨by simp [RepA,Value.oneCell',zfc7],by simp⟩
 ·exact ⟨by simp [RepA,Value.oneCell',zfc7],by simp⟩
theorem zhc7 {α : Type} : ∀ {l : List (Option α)} {r : List α},zoa7 l = some r → l = r.map some
 | [],r,h => by simp [zoa7] at h; subst h; rfl
 | none :: l,r,h => by simp [zoa7] at h
 | some a :: l,r,h => by
  simp only [zoa7] at h
  cases e : zoa7 l with
  | none => simp [e] at h
  | some r' => simp [e] at h; subst h; simp [zhc7 e]
theorem zof7 {C : Ctx} : ∀ {vs : List Value} {l : List AVal},zoa7 (vs.map cst) = some l → RepL C l vs ∧ l.all AVal.leaf = true ∧ ∀ v ∈ vs,v.oneCell' = true
 | [],l,h => by simp [zoa7] at h; subst h; simp [RepL]
 | v :: vs,l,h => by
  simp only [List.map_cons] at h
  cases e : cst v with
  | none => simp [zoa7,e] at h
  | some x =>
   rw [e] at h
   simp only [zoa7] at h
   cases e' : zoa7 (vs.map cst) with
   | none => simp [e'] at h
   | some r =>
    simp [e'] at h
    subst h
    obtain ⟨h1,h2,h3⟩:=zof7 (C:=C) e'
    obtain ⟨h4,h5⟩:=cst_rep (C:=C) e
    refine ⟨⟨v,vs,rfl,h4,h1⟩,by rw [List.all_cons,h5,h2]; rfl,fun u hu => ?_⟩
    cases hu with
    | head => exact (h4.leaf h5).1
    | tail _ hu => exact h3 u hu
theorem zia7 {C : Ctx} {g : Nat → AVal} {a : Act} (hg : RepE C g a) {x : Operand} {ax : AX} (h : cX x = some ax) : RepA C (evX g ax) (a.eval x):=by
 cases x with
 | tmp t => simp [cX] at h; subst h; exact hg.env t
 | func f =>
  simp only [cX] at h
  split at h
  ·rename_i hf
   cases h
   simp only [evX,RepA,Act.eval,if_neg (Nat.not_le.2 hf)]
   exact ⟨#[],rfl,by simp [RepL]⟩
  ·cases h
 | global n =>
  simp only [cX] at h
  cases e : Glob.tab n with
  | none => simp [e] at h
  | some ds =>
   simp [e] at h
   subst h
   obtain ⟨cs,h1,h2⟩:=hg.glob n ds e
   simp only [evX,RepA,Act.eval]
   exact ⟨n,0,cs,rfl,h1,h2⟩
 | const v =>
  simp only [cX] at h
  split at h
  ·rename_i cs
   cases e : zoa7 (cs.toList.map cst) with
   | none => simp [e] at h
   | some l =>
    simp [e] at h
    subst h
    obtain ⟨h1,h2,h3⟩:=zof7 (C:=C) e
    exact ⟨cs,rfl,h1,h2,by simpa using h3⟩
  ·cases e : cst v with
   | none => simp [e] at h
   | some y =>
    simp [e] at h
    subst h
    exact (cst_rep e).1
theorem cXs_rep {C : Ctx} {g : Nat → AVal} {a : Act} (hg : RepE C g a) : ∀ {xs : List Operand} {axs : List AX},zoa7 (xs.map cX) = some axs → RepL C (axs.map (evX g)) (xs.map a.eval)
 | [],axs,h => by simp [zoa7] at h; subst h; simp [RepL]
 | x :: xs,axs,h => by
  simp only [List.map_cons] at h
  cases e : cX x with
  | none => simp [zoa7,e] at h
  | some y =>
   rw [e] at h
   simp only [zoa7] at h
   cases e' : zoa7 (xs.map cX) with
   | none => simp [e'] at h
   | some r =>
    simp [e'] at h
    subst h
    exact ⟨_,_,rfl,zia7 hg e,cXs_rep hg e'⟩
theorem tI_info {P : Program} {t : TypeId} {q : TI} (h : tI P t = some q) : ∃ i d,P.info? t = some i ∧ P.underlying t = some d ∧ q.size = i.size ∧ q.bytes = i.bytes ∧
  q.agg = (match d with | .struct _ | .array _ _ => true | _ => false) ∧ q.zero = i.zero.bind cstCells:=by
 unfold tI at h
 cases e : P.info? t with
 | none => simp [e] at h
 | some i =>
  cases e' : P.underlying t with
  | none => simp [e,e'] at h
  | some d => simp [e,e'] at h; subst h; exact ⟨i,d,rfl,rfl,rfl,rfl,rfl,rfl⟩
theorem run_typeInfo {P : Program} {t : TypeId} {i : TypeInfo} (h : P.info? t = some i) (w : World) : (typeInfo t).run P w = .ok i w:=by
 simp [typeInfo,h]
theorem run_sizeOf {P : Program} {t : TypeId} {q : TI} (h : tI P t = some q) (w : World) : (sizeOf t).run P w = .ok q.size w:=by
 obtain ⟨i,d,h1,_,h3,_⟩:=tI_info h
 simp [sizeOf,run_typeInfo h1,h3]
theorem run_isAgg {P : Program} {t : TypeId} {q : TI} (h : tI P t = some q) (w : World) : (isAgg t).run P w = .ok q.agg w:=by
 obtain ⟨i,d,_,h2,_,_,h5,_⟩:=tI_info h
 rw [h5]
 simp only [isAgg,Sem.run_bind,run_underlying h2,Result.andThen_ok]
 cases d <;> rfl
theorem Addr.add_mk (b o n : Nat) : (⟨b,o,none⟩ : Addr).add n = ⟨b,o + n,none⟩:=by
 unfold Addr.add; split <;> simp_all
section
variable {P : Program} {o : Oper} {a : Act} {B : Base} {C : Ctx} {g : Nat → AVal}
theorem op_mv (hI : Inv B C) (hE : RepE C g a) {x : Operand} {ax : AX} (ho : o.op = .move x ∨ o.op = .assign x) (hx : cX x = some ax) :
  Does P o a C.w (Owes B C (evX g ax) []):=by
 refine zka7 hI ?_ (zia7 hE hx)
 rcases ho with ho | ho <;> simp [execOp,ho]
theorem op_pick (hI : Inv B C) (hE : RepE C g a) {c x y : Operand} {ac ax ay : AX} (ho : o.op = .pick c x y) (hc : cX c = some ac) (hx : cX x = some ax) (hy : cX y = some ay)
  {t : Bool} (ht : evX g ac = .dat (.bool t)) : Does P o a C.w (Owes B C (if t then evX g ax else evX g ay) []):=by
 have h1:=zia7 hE hc
 rw [ht] at h1
 simp only [RepA] at h1
 have h2:=h1.cell rfl
 simp [RepD] at h2
 refine zka7 (val:=if t then a.eval x else a.eval y) hI ?_ ?_
 ·simp only [execOp,ho,Sem.run_bind,h2,asBool,Sem.run_pure,Result.andThen_ok]
 ·cases t
  ·exact zia7 hE hy
  ·exact zia7 hE hx
theorem op_nilChk (hI : Inv B C) (hE : RepE C g a) {x : Operand} {ax : AX} (ho : o.op = .nilCheck x) (hx : cX x = some ax)
  (hp : (∃ id off,evX g ax = .ref id off) ∨ (∃ id ver i off,evX g ax = .eref id ver i off) ∨ (∃ l,evX g ax = .fp l) ∨ (∃ f l,evX g ax = .fn f l)) :
  Does P o a C.w (Owes B C (evX g ax) []):=by
 have h1:=zia7 hE hx
 have : (∃ p,a.eval x = .pointer (some p)) ∨ ∃ f bs cs,a.eval x = .func (.func f) bs cs:=by
  rcases hp with ⟨id,off,e⟩ | ⟨id,ver,i,off,e⟩ | ⟨l,e⟩ | ⟨f,l,e⟩ <;> rw [e] at h1 <;> simp only [RepA] at h1
  ·obtain ⟨L,_,h⟩:=h1; exact .inl ⟨_,h⟩
  ·obtain ⟨A,p,_,_,h,_⟩:=h1; exact .inl ⟨_,h⟩
  ·obtain ⟨b,o,cs,h,_⟩:=h1; exact .inl ⟨_,h⟩
  ·obtain ⟨cs,h,_⟩:=h1
   split at h
   ·exact .inr ⟨_,_,_,h⟩
   ·exact .inr ⟨_,_,_,h⟩
 rcases this with ⟨p,hp⟩ | ⟨f,bs,cs,hp⟩
 ·exact zka7 hI (by simp [execOp,ho,hp]) h1
 ·exact zka7 hI (by simp [execOp,ho,hp]) h1
theorem op_mkf (hI : Inv B C) (hE : RepE C g a) {f : FuncId} {first captured : Array Operand} {axs : List AX} (ho : o.op = .makeFunc (.func f) first captured) (hb : ¬ BIGF ≤ f) (h0 : first.size = 0) (hx : cXs captured = some axs) :
  Does P o a C.w (Owes B C (.fn f (axs.map (evX g))) []):=by
 have h1:=cXs_rep (C:=C) hE hx
 have hf : first = #[]:=Array.eq_empty_of_size_eq_zero h0
 subst hf
 refine zka7 hI (val:=.func (.func f) #[] (captured.map a.eval)) (by simp [execOp,ho,Instr.makeFunc]) ?_
 simp only [RepA,if_neg hb]
 exact ⟨_,rfl,by simpa using h1⟩
theorem op_mkb (hI : Inv B C) (hE : RepE C g a) {f : FuncId} {first captured : Array Operand} {axs : List AX} (ho : o.op = .makeFunc (.func f) first captured) (h0 : captured.size = 0) (hx : cXs first = some axs) :
  Does P o a C.w (Owes B C (.fn (f + BIGF) (axs.map (evX g))) []):=by
 have h1:=cXs_rep (C:=C) hE hx
 have hf : captured = #[]:=Array.eq_empty_of_size_eq_zero h0
 subst hf
 refine zka7 hI (val:=.func (.func f) (first.map a.eval) #[]) (by simp [execOp,ho,Instr.makeFunc]) ?_
 simp only [RepA,if_pos (Nat.le_add_left BIGF f),Nat.add_sub_cancel]
 exact ⟨_,rfl,by simpa using h1⟩
theorem cap0E_rep {x v : AVal} {val : Value} (h : cap0E x = some v) (hr : RepA C x val) : ∃ p n c,val = .slice p n c ∧ RepA C v (.slice p 0 0):=by
 unfold cap0E at h
 split at h <;> simp only [Option.some.injEq,reduceCtorEq] at h <;> subst h <;> simp only [RepA] at hr ⊢
 ·exact ⟨none,0,0,hr,rfl⟩
 ·obtain ⟨p,c,h1,h2⟩:=hr
  exact ⟨p,0,c,h1,p,rfl⟩
 ·obtain ⟨p,h1⟩:=hr
  exact ⟨p,0,0,h1,p,rfl⟩
 ·have:=hr.cell rfl
  simp only [RepD] at this
  obtain ⟨p,cap,h1,_⟩:=this
  simp only [List.cons.injEq,and_true] at h1
  exact ⟨p,_,_,h1,p,rfl⟩
 ·obtain ⟨A,p,cap,_,_,h4,_⟩:=hr
  exact ⟨p,_,_,h4,p,rfl⟩
theorem rep_int {C : Ctx} {k : IntKind} {n : Int} {v : Value} (h : RepA C (.dat (.int k n)) v) : v = .int k n:=by
 simp only [RepA] at h
 have:=h.cell rfl
 simpa [RepD] using this
theorem rep_bool {C : Ctx} {b : Bool} {v : Value} (h : RepA C (.dat (.bool b)) v) : v = .bool b:=by
 simp only [RepA] at h
 have:=h.cell rfl
 simpa [RepD] using this
theorem rep_str {C : Ctx} {s : List UInt8} {v : Value} (h : RepA C (.dat (.str s)) v) : v = .string ⟨s.toArray⟩:=by
 simp only [RepA] at h
 have:=h.cell rfl
 simpa [RepD] using this
theorem zqa7 (C : Ctx) (k : IntKind) (n : Int) : RepA C (.dat (.int k n)) (.int k n):=by simp [RepA,RepV,RepD,Value.cells,zfc7]
theorem zsb7 (C : Ctx) (b : Bool) : RepA C (.dat (.bool b)) (.bool b):=by simp [RepA,RepV,RepD,Value.cells,zfc7]
theorem rep_mk_str (C : Ctx) (s : List UInt8) : RepA C (.dat (.str s)) (.string ⟨s.toArray⟩):=by simp [RepA,RepV,RepD,Value.cells,zfc7]
theorem toList_mk (l : List UInt8) : (⟨l.toArray⟩ : ByteArray).toList = l:=by
 rw [ByteArray.toList_eq]
theorem intE_run (C : Ctx) {op : BinOp} {k : IntKind} {x y : Int} {v : AVal} (h : intE op k x y = some v) (hs : op ≠ .shl ∧ op ≠ .shr) (t : TypeId) (w : World) :
  ∃ val,(binOp op t (.int k x) (.int k y)).run P w = .ok val w ∧ RepA C v val:=by
 cases op <;> simp only [intE,Option.some.injEq,reduceCtorEq,Option.ite_none_left_eq_some] at h
 case add => subst h; exact ⟨_,by simp [binOp,Op.intArith],zqa7 _ _ _⟩
 case sub => subst h; exact ⟨_,by simp [binOp,Op.intArith],zqa7 _ _ _⟩
 case mul => subst h; exact ⟨_,by simp [binOp,Op.intArith],zqa7 _ _ _⟩
 case quo => obtain ⟨h1,h⟩:=h; subst h; exact ⟨_,by simp [binOp,Op.intDiv,h1],zqa7 _ _ _⟩
 case rem => obtain ⟨h1,h⟩:=h; subst h; exact ⟨_,by simp [binOp,Op.intDiv,h1],zqa7 _ _ _⟩
 case and => subst h; exact ⟨_,by simp only [binOp,ne_eq,not_true_eq_false,if_false,Op.intBits]; exact Sem.run_pure P w _,zqa7 _ _ _⟩
 case or => subst h; exact ⟨_,by simp only [binOp,ne_eq,not_true_eq_false,if_false,Op.intBits]; exact Sem.run_pure P w _,zqa7 _ _ _⟩
 case xor => subst h; exact ⟨_,by simp only [binOp,ne_eq,not_true_eq_false,if_false,Op.intBits]; exact Sem.run_pure P w _,zqa7 _ _ _⟩
 case andNot => subst h; exact ⟨_,by simp only [binOp,ne_eq,not_true_eq_false,if_false,Op.intBits]; exact Sem.run_pure P w _,zqa7 _ _ _⟩
 case eql => subst h; exact ⟨_,by simp only [binOp,ne_eq,not_true_eq_false,if_false,Op.intCmp]; exact Sem.run_pure P w _,zsb7 _ _⟩
 case neq => subst h; exact ⟨_,by simp only [binOp,ne_eq,not_true_eq_false,if_false,Op.intCmp]; exact Sem.run_pure P w _,by exact zsb7 _ _⟩
 case lss => subst h; exact ⟨_,by simp only [binOp,ne_eq,not_true_eq_false,if_false,Op.intCmp]; exact Sem.run_pure P w _,zsb7 _ _⟩
 case leq => subst h; exact ⟨_,by simp only [binOp,ne_eq,not_true_eq_false,if_false,Op.intCmp]; exact Sem.run_pure P w _,zsb7 _ _⟩
 case gtr => subst h; exact ⟨_,by simp only [binOp,ne_eq,not_true_eq_false,if_false,Op.intCmp]; exact Sem.run_pure P w _,zsb7 _ _⟩
 case geq => subst h; exact ⟨_,by simp only [binOp,ne_eq,not_true_eq_false,if_false,Op.intCmp]; exact Sem.run_pure P w _,zsb7 _ _⟩
theorem shiftE_run (C : Ctx) {op : BinOp} {k k' : IntKind} {x y : Int} {v : AVal} (h : shiftE op k x y = some v) (t : TypeId) (w : World) :
  ∃ val,(binOp op t (.int k x) (.int k' y)).run P w = .ok val w ∧ RepA C v val:=by
 unfold shiftE at h
 split at h
 ·cases h
 ·rename_i hy
  cases op <;> simp at h
  case shl => subst h; exact ⟨_,by simp only [binOp,Op.shift,hy,if_false]; exact Sem.run_pure P w _,zqa7 _ _ _⟩
  case shr => subst h; exact ⟨_,by simp only [binOp,Op.shift,hy,if_false]; exact Sem.run_pure P w _,zqa7 _ _ _⟩
theorem strE_run (C : Ctx) {op : BinOp} {x y : List UInt8} {v : AVal} (h : strE op x y = some v) (t : TypeId) (w : World) :
  ∃ val,(binOp op t (.string ⟨x.toArray⟩) (.string ⟨y.toArray⟩)).run P w = .ok val w ∧ RepA C v val:=by
 cases op <;> simp only [strE,Option.some.injEq,reduceCtorEq,Option.ite_none_right_eq_some] at h
 case add =>
  obtain ⟨h1,h⟩:=h
  subst h
  refine ⟨.string (⟨x.toArray⟩ ++ ⟨y.toArray⟩),?_,?_⟩
  ·have hb : ¬ (((x.length + y.length : Nat) : Int) > IntKind.i64.max):=by
    have : IntKind.i64.max = 9223372036854775807:=by decide
    omega
   simp only [binOp,Op.stringOp]
   rw [if_neg]
   ·rfl
   ·simpa [ByteArray.size] using hb
  ·have : (⟨x.toArray⟩ ++ ⟨y.toArray⟩ : ByteArray) = ⟨(x ++ y).toArray⟩:=by
    apply ByteArray.ext
    simp
   rw [this]
   exact rep_mk_str _ _
 all_goals (subst h; exact ⟨_,by simp only [binOp,Op.stringOp,toList_mk]; exact Sem.run_pure P w _,zsb7 _ _⟩)
theorem nilPE_ptr {x : AVal} {b : Bool} {v : Value} (h : nilPE x = some b) (hr : RepA C x v) : (b = true ∧ v = .pointer none) ∨ (b = false ∧ ∃ p,v = .pointer (some p)):=by
 cases x <;> simp [nilPE] at h <;> subst h <;> simp only [RepA] at hr
 ·exact .inl ⟨rfl,hr⟩
 ·obtain ⟨L,_,h⟩:=hr; exact .inr ⟨rfl,_,h⟩
 ·obtain ⟨A,p,_,_,h,_⟩:=hr; exact .inr ⟨rfl,_,h⟩
 ·obtain ⟨b,o,cs,h,_⟩:=hr; exact .inr ⟨rfl,_,h⟩
def plainV : Value → Bool
 | .int _ _ | .bool _ | .string _ | .pointer _ | .slice _ _ _ => true
 | _ => false
theorem eqGuard_run (op : BinOp) (t : TypeId) (x y : Operand) {u v : Value} (hu : plainV u = true) (w : World) : (eqGuard op t x y u v).run P w = .ok () w:=by
 unfold eqGuard
 cases u <;> simp [plainV] at hu <;> cases op <;> simp
theorem eqlIn_ptr {t e : TypeId} (h : P.underlying t = some (.pointer e)) (d : Nat) (w : World) (p q : Option Addr) (hn : p = none ∨ q = none) :
  (Op.equalIn (d + 1) t (.pointer p) (.pointer q)).run P w = .ok (p.isNone && q.isNone) w:=by
 rcases hn with hn | hn <;> subst hn
 ·cases q <;> simp only [Op.equalIn,Sem.run_bind,run_underlying h,Result.andThen_ok] <;> rfl
 ·cases p <;> simp only [Op.equalIn,Sem.run_bind,run_underlying h,Result.andThen_ok] <;> rfl
theorem run_eqlPtr {t e : TypeId} (h : P.underlying t = some (.pointer e)) (w : World) (p q : Option Addr) (hn : p = none ∨ q = none) :
  (Op.equal t (.pointer p) (.pointer q)).run P w = .ok (p.isNone && q.isNone) w:=eqlIn_ptr h 9999 w p q hn
theorem eqlIn_slc {t e : TypeId} (h : P.underlying t = some (.slice e)) (d : Nat) (w : World) (p : Option Addr) (n c : Nat) :
  (Op.equalIn (d + 1) t (.slice p n c) (.slice none 0 0)).run P w = .ok p.isNone w:=by
 cases p <;> simp only [Op.equalIn,Sem.run_bind,run_underlying h,Result.andThen_ok] <;> rfl
theorem run_eqlSlc {t e : TypeId} (h : P.underlying t = some (.slice e)) (w : World) (p : Option Addr) (n c : Nat) :
  (Op.equal t (.slice p n c) (.slice none 0 0)).run P w = .ok p.isNone w:=eqlIn_slc h 9999 w p n c
theorem eqlIn_bool {t : TypeId} (h : P.underlying t = some .bool) (d : Nat) (w : World) (x y : Bool) :
  (Op.equalIn (d + 1) t (.bool x) (.bool y)).run P w = .ok (x == y) w:=by
 simp only [Op.equalIn,Sem.run_bind,run_underlying h,Result.andThen_ok] <;> rfl
theorem run_eqlBool {t : TypeId} (h : P.underlying t = some .bool) (w : World) (x y : Bool) :
  (Op.equal t (.bool x) (.bool y)).run P w = .ok (x == y) w:=eqlIn_bool h 9999 w x y
theorem nilSE_slc {x : AVal} {b : Bool} {v : Value} (h : nilSE x = some b) (hr : RepA C x v) : ∃ p n c,v = .slice p n c ∧ p.isNone = b:=by
 unfold nilSE at h
 split at h <;> simp at h <;> subst h <;> simp only [RepA] at hr
 ·exact ⟨none,0,0,hr,rfl⟩
 ·obtain ⟨p,c,h1,h2⟩:=hr
  exact ⟨p,0,c,h1,h2⟩
 ·have:=hr.cell rfl
  simp only [RepD] at this
  obtain ⟨a,cap,h1,_,h3⟩:=this
  simp at h1
  rcases h3 with h3 | ⟨b,o,sz,ha,_⟩
  ·simp at h3
  ·subst ha; exact ⟨_,_,_,h1,rfl⟩
 ·obtain ⟨A,p,cap,h1,h2,h3,h4,h5,_⟩:=hr
  have:=h5 (by omega)
  cases p with
  | none => simp at this
  | some p => exact ⟨_,_,_,h3,rfl⟩
 ·obtain ⟨b,o,cap,cs,h1,_⟩:=hr
  exact ⟨_,_,_,h1,rfl⟩
theorem zpf7 (C : Ctx) {op : BinOp} {b : Bool} {v : AVal} (h : cmpE op b = some v) {t : TypeId} {x y : Value} {w : World} (hr : (Op.equal t x y).run P w = .ok b w)
  (hx : ∀ k n,x ≠ .int k n) (hx2 : ∀ k n,x ≠ .float k n) (hx3 : ∀ k n m,x ≠ .complex k n m) (hx4 : ∀ s,x ≠ .string s) : ∃ val,(binOp op t x y).run P w = .ok val w ∧ RepA C v val:=by
 cases op <;> simp only [cmpE,Option.some.injEq,reduceCtorEq] at h
 case eql =>
  subst h
  refine ⟨.bool b,?_,zsb7 _ _⟩
  unfold binOp
  split <;> simp_all
 case neq =>
  subst h
  refine ⟨.bool !b,?_,zsb7 _ _⟩
  unfold binOp
  split <;> simp_all
def valD : Dat → Value
 | .int k n => .int k n
 | .bool b => .bool b
 | .str s => .string ⟨s.toArray⟩
 | _ => undef
theorem zeb7 {s : Sh} {r : List Sh} {a b : List Dat} {e : Bool} (h : zea7 (s :: r) a b = some e) :
  ∃ x xs y ys e1 e2,a = x :: xs ∧ b = y :: ys ∧ zxa7 s x y = some e1 ∧ zea7 r xs ys = some e2 ∧ e = (e1 && e2):=by
 cases a with
 | nil => cases b <;> simp [zea7] at h
 | cons x xs =>
  cases b with
  | nil => simp [zea7] at h
  | cons y ys =>
   simp only [zea7] at h
   cases e1 : zxa7 s x y with
   | none => simp [e1] at h
   | some u =>
    cases e2 : zea7 r xs ys with
    | none => simp [e1,e2] at h
    | some v => simp [e1,e2] at h; exact ⟨x,xs,y,ys,u,v,rfl,rfl,e1,e2,h.symm⟩
theorem zib7 {a b : List Dat} {e : Bool} (h : zea7 [] a b = some e) : a = [] ∧ b = [] ∧ e = true:=by
 cases a <;> cases b <;> simp [zea7] at h
 exact ⟨rfl,rfl,h⟩
theorem eqCell_vals {F : Froz} {s : Sh} {x y : Dat} {e : Bool} {c c' : Value} (h : zxa7 s x y = some e) (hx : RepD F x [c]) (hy : RepD F y [c']) : c = valD x ∧ c' = valD y:=by
 unfold zxa7 at h
 split at h
 ·simp only [RepD,List.cons.injEq,and_true] at hx hy; exact ⟨hx,hy⟩
 ·simp only [RepD,List.cons.injEq,and_true] at hx hy; exact ⟨hx,hy⟩
 ·simp only [RepD,List.cons.injEq,and_true] at hx hy; exact ⟨hx,hy⟩
 ·cases h
theorem zie7 {F : Froz} : ∀ {sh : List Sh} {a b : List Dat} {e : Bool} {xs ys : List Value},zea7 sh a b = some e → AggD F a xs → AggD F b ys → xs = a.map valD ∧ ys = b.map valD
 | [],a,b,e,xs,ys,h,ha,hb => by
  obtain ⟨rfl,rfl,rfl⟩:=zib7 h
  simp only [AggD] at ha hb
  simp [ha,hb]
 | s :: r,a,b,e,xs,ys,h,ha,hb => by
  obtain ⟨x,l,y,l',e1,e2,rfl,rfl,h1,h2,rfl⟩:=zeb7 h
  simp only [AggD] at ha hb
  obtain ⟨c,cs,rfl,_,p1,p2⟩:=ha
  obtain ⟨c',cs',rfl,_,p3,p4⟩:=hb
  obtain ⟨q1,q2⟩:=zie7 h2 p2 p4
  obtain ⟨q3,q4⟩:=eqCell_vals h1 p1 p3
  simp [q1,q2,q3,q4]
theorem zqc7 : ∀ {l r : List Sh} {a b : List Dat} {e : Bool},zea7 (l ++ r) a b = some e →
  ∃ e1 e2,zea7 l (a.take l.length) (b.take l.length) = some e1 ∧ zea7 r (a.drop l.length) (b.drop l.length) = some e2 ∧ e = (e1 && e2)
 | [],r,a,b,e,h => ⟨true,e,by simp [zea7],by simpa using h,by simp⟩
 | s :: l,r,a,b,e,h => by
  rw [List.cons_append] at h
  obtain ⟨x,xs,y,ys,e1,e2,rfl,rfl,h1,h2,rfl⟩:=zeb7 h
  obtain ⟨u,v,q1,q2,rfl⟩:=zqc7 h2
  exact ⟨e1 && u,v,by simp [zea7,h1,q1],by simpa using q2,by rw [Bool.and_assoc]⟩
theorem zxd7 : ∀ {sh : List Sh} {a b : List Dat} {e : Bool},zea7 sh a b = some e → a.length = sh.length ∧ b.length = sh.length
 | [],a,b,e,h => by
  obtain ⟨rfl,rfl,rfl⟩:=zib7 h
  simp
 | s :: r,a,b,e,h => by
  obtain ⟨x,xs,y,ys,e1,e2,rfl,rfl,h1,h2,rfl⟩:=zeb7 h
  have:=zxd7 h2
  simp [this]
def mkV (P : Program) (t : TypeId) (a : List Dat) : Value :=
 match P.underlying t with
 | some (.struct _) => .agg (a.map valD).toArray
 | some (.array _ _) => .agg (a.map valD).toArray
 | _ => (a.map valD).headD undef
theorem run_isAgg' {t : TypeId} {d : TypeDesc} (h : P.underlying t = some d) (w : World) : (isAgg t).run P w = .ok (match d with | .struct _ | .array _ _ => true | _ => false) w:=by
 simp only [isAgg,Sem.run_bind,run_underlying h,Result.andThen_ok]
 cases d <;> rfl
theorem run_cellsOf {t : TypeId} (h : (P.info? t).isSome = true) (w : World) : (sizeOf t).run P w = .ok (P.cellsOf t) w:=by
 obtain ⟨i,hi⟩:=Option.isSome_iff_exists.1 h
 simp [sizeOf,run_typeInfo hi,Program.cellsOf,hi]
theorem shape_under {m : Nat} {t : TypeId} {sh : List Sh} (h : shapeOf P m t = some sh) : ∃ d,P.underlying t = some d:=by
 cases m with
 | zero => simp [shapeOf] at h
 | succ m =>
  unfold shapeOf at h
  cases e : P.underlying t with
  | none => simp [e] at h
  | some d => exact ⟨d,rfl⟩
theorem zwe7 {t : TypeId} {a pre mid post : List Dat} (ha : a = pre ++ mid ++ post) (hl : mid.length = P.cellsOf t) (hi : (P.info? t).isSome = true) {m : Nat} {sh : List Sh} (hs : shapeOf P m t = some sh) (hsl : sh.length = mid.length) (w : World) :
  (part t (a.map valD).toArray pre.length).run P w = .ok (mkV P t mid) w:=by
 obtain ⟨d,hd⟩:=shape_under hs
 unfold part
 simp only [Sem.run_bind,run_isAgg' hd,Result.andThen_ok]
 have hone : (∀ fs,d ≠ .struct fs) → (∀ n e,d ≠ .array n e) → mid.length = 1:=by
  intro h1 h2
  rw [← hsl]
  cases m with
  | zero => simp [shapeOf] at hs
  | succ m =>
   unfold shapeOf at hs
   rw [hd] at hs
   cases d <;> simp at hs h1 h2 <;> (subst hs; rfl)
 have hagg : ((a.map valD).toArray.extract pre.length (pre.length + P.cellsOf t)) = (mid.map valD).toArray:=by
  apply Array.toList_inj.1
  subst ha
  simp [← hl,List.drop_append,List.take_append]
 cases d
 case struct fs =>
  simp only [if_true,Sem.run_bind,run_cellsOf hi,Result.andThen_ok,Sem.run_pure,mkV,hd,hagg]
 case array n e =>
  simp only [if_true,Sem.run_bind,run_cellsOf hi,Result.andThen_ok,Sem.run_pure,mkV,hd,hagg]
 all_goals
  have h1:=hone (by simp) (by simp)
  match mid,h1 with
  | [x],_ =>
   subst ha
   simp [mkV,hd]
theorem eqFields_run {m d : Nat} (IH : ∀ (t : TypeId) (sh : List Sh),shapeOf P m t = some sh → ∀ (a b : List Dat) (e : Bool) (w : World),zea7 sh a b = some e → (Op.equalIn d t (mkV P t a) (mkV P t b)).run P w = .ok e w) :
  ∀ (fs : List Field) (o : Nat) (sh : List Sh),zgd7 P (shapeOf P m) o fs = some sh → ∀ (a b pa pb : List Dat) (e : Bool) (w : World),pa.length = o → pb.length = o → zea7 sh a b = some e →
   (Op.eqFields d ((pa ++ a).map valD).toArray ((pb ++ b).map valD).toArray fs).run P w = .ok e w
 | [],o,sh,h,a,b,pa,pb,e,w,hpa,hpb,he => by
  simp only [zgd7,Option.some.injEq] at h
  subst h
  obtain ⟨rfl,rfl,rfl⟩:=zib7 he
  simp [Op.eqFields]
 | f :: fs,o,sh,h,a,b,pa,pb,e,w,hpa,hpb,he => by
  simp only [zgd7] at h
  split at h
  ·rename_i l r hl hr
   split at h
   ·rename_i hc
    obtain ⟨c1,c2,c3,c4⟩:=hc
    simp only [Option.some.injEq] at h
    subst h
    obtain ⟨e1,e2,q1,q2,q3⟩:=zqc7 he
    obtain ⟨n1,n2⟩:=zxd7 q1
    have p1:=zwe7 (P:=P) (t:=f.type) (a:=pa ++ a) (pre:=pa) (mid:=a.take l.length) (post:=a.drop l.length) (by simp) (by rw [n1,c2]) c4 hl n1.symm w
    have p2:=zwe7 (P:=P) (t:=f.type) (a:=pb ++ b) (pre:=pb) (mid:=b.take l.length) (post:=b.drop l.length) (by simp) (by rw [n2,c2]) c4 hl n2.symm w
    rw [hpa] at p1
    rw [hpb] at p2
    have h3:=IH f.type l hl _ _ e1 w q1
    simp only [Op.eqFields,c3,ne_eq,not_false_eq_true,if_true,Sem.run_bind,c1,p1,p2,h3,Result.andThen_ok]
    cases e1
    ·simp [q3]
    ·have:=eqFields_run IH fs _ r hr (a.drop l.length) (b.drop l.length) (pa ++ a.take l.length) (pb ++ b.take l.length) e2 w (by rw [List.length_append,n1,hpa,c2]) (by rw [List.length_append,n2,hpb,c2]) q2
     simp only [List.append_assoc,List.take_append_drop] at this
     simp only [Bool.not_true,Bool.false_eq_true,if_false,this,q3,Bool.true_and]
   ·cases h
  ·cases h
theorem eqItems_run {d : Nat} {t : TypeId} {l : List Sh} {m : Nat} (hl : shapeOf P m t = some l) (hc : l.length = P.cellsOf t) (hi : (P.info? t).isSome = true)
  (IH : ∀ (a b : List Dat) (e : Bool) (w : World),zea7 l a b = some e → (Op.equalIn d t (mkV P t a) (mkV P t b)).run P w = .ok e w) :
  ∀ (n k : Nat) (a b pa pb : List Dat) (e : Bool) (w : World),pa.length = k * P.cellsOf t → pb.length = k * P.cellsOf t → zea7 (List.replicate n l).flatten a b = some e →
   (Op.eqItems d t (P.cellsOf t) ((pa ++ a).map valD).toArray ((pb ++ b).map valD).toArray (List.range' k n)).run P w = .ok e w
 | 0,k,a,b,pa,pb,e,w,hpa,hpb,he => by
  simp only [List.replicate_zero,List.flatten_nil] at he
  obtain ⟨rfl,rfl,rfl⟩:=zib7 he
  simp [Op.eqItems]
 | n + 1,k,a,b,pa,pb,e,w,hpa,hpb,he => by
  rw [List.replicate_succ,List.flatten_cons] at he
  obtain ⟨e1,e2,q1,q2,q3⟩:=zqc7 he
  obtain ⟨n1,n2⟩:=zxd7 q1
  have p1:=zwe7 (P:=P) (t:=t) (a:=pa ++ a) (pre:=pa) (mid:=a.take l.length) (post:=a.drop l.length) (by simp) (by rw [n1,hc]) hi hl n1.symm w
  have p2:=zwe7 (P:=P) (t:=t) (a:=pb ++ b) (pre:=pb) (mid:=b.take l.length) (post:=b.drop l.length) (by simp) (by rw [n2,hc]) hi hl n2.symm w
  rw [hpa] at p1
  rw [hpb] at p2
  have h3:=IH _ _ e1 w q1
  simp only [List.range'_succ,Op.eqItems,Sem.run_bind,p1,p2,h3,Result.andThen_ok]
  cases e1
  ·simp [q3]
  ·have:=eqItems_run hl hc hi IH n (k + 1) (a.drop l.length) (b.drop l.length) (pa ++ a.take l.length) (pb ++ b.take l.length) e2 w (by rw [List.length_append,n1,hpa,hc,Nat.add_mul]; omega) (by rw [List.length_append,n2,hpb,hc,Nat.add_mul]; omega) q2
   simp only [List.append_assoc,List.take_append_drop] at this
   simp only [Bool.not_true,Bool.false_eq_true,if_false,this,q3,Bool.true_and]
theorem shape_run : ∀ (m d : Nat) (t : TypeId) (sh : List Sh),shapeOf P m t = some sh → ∀ (a b : List Dat) (e : Bool) (w : World),zea7 sh a b = some e →
  (Op.equalIn (d + m) t (mkV P t a) (mkV P t b)).run P w = .ok e w
 | 0,d,t,sh,h,a,b,e,w,he => by simp [shapeOf] at h
 | m + 1,d,t,sh,h,a,b,e,w,he => by
  have h0:=h
  unfold shapeOf at h
  have e0 : d + (m + 1) = (d + m) + 1:=rfl
  split at h
  ·rename_i k hu
   simp only [Option.some.injEq] at h
   subst h
   obtain ⟨x,xs,y,ys,e1,e2,rfl,rfl,h1,h2,rfl⟩:=zeb7 he
   obtain ⟨rfl,rfl,rfl⟩:=zib7 h2
   unfold zxa7 at h1
   split at h1 <;> (try (rename_i hsh; simp at hsh; done)) <;> (try (cases h1; done))
   rename_i k1 n k2 n' hsh
   simp only [Sh.int.injEq] at hsh
   subst hsh
   split at h1
   ·rename_i hk
    obtain ⟨rfl,rfl⟩:=hk
    simp only [Option.some.injEq] at h1
    subst h1
    simp only [mkV,hu,List.map_cons,List.headD_cons,valD,Bool.and_true]
    rw [e0]
    simp only [Op.equalIn,Sem.run_bind,run_underlying hu,Result.andThen_ok,if_true,Sem.run_pure]
    rfl
   ·cases h1
  ·rename_i hu
   simp only [Option.some.injEq] at h
   subst h
   obtain ⟨x,xs,y,ys,e1,e2,rfl,rfl,h1,h2,rfl⟩:=zeb7 he
   obtain ⟨rfl,rfl,rfl⟩:=zib7 h2
   unfold zxa7 at h1
   split at h1 <;> (try (rename_i hsh; simp at hsh; done)) <;> (try (cases h1; done))
   simp only [Option.some.injEq] at h1
   subst h1
   simp only [mkV,hu,List.map_cons,List.headD_cons,valD,Bool.and_true]
   rw [e0]
   exact eqlIn_bool hu _ w _ _
  ·rename_i hu
   simp only [Option.some.injEq] at h
   subst h
   obtain ⟨x,xs,y,ys,e1,e2,rfl,rfl,h1,h2,rfl⟩:=zeb7 he
   obtain ⟨rfl,rfl,rfl⟩:=zib7 h2
   unfold zxa7 at h1
   split at h1 <;> (try (rename_i hsh; simp at hsh; done)) <;> (try (cases h1; done))
   simp only [Option.some.injEq] at h1
   subst h1
   simp only [mkV,hu,List.map_cons,List.headD_cons,valD,Bool.and_true]
   rw [e0,run_equalIn_string w _ t _ _ hu]
   simp [toList_mk]
  ·rename_i fs hu
   split at h
   ·cases h
   ·rename_i hg
    simp only [Bool.or_eq_true,not_or,Bool.not_eq_true] at hg
    have hf : P.fieldsOf t = fs:=by simp [Program.fieldsOf,hu]
    simp only [mkV,hu]
    rw [e0,run_equalIn_struct w _ t _ _ (by rw [hf]; exact hu) hg.1,hf]
    have:=eqFields_run (P:=P) (m:=m) (d:=d + m) (fun t sh hs a b e w he => shape_run m d t sh hs a b e w he) fs.toList 0 sh h a b [] [] e w rfl rfl he
    simpa using this
  ·rename_i n el hu
   split at h
   ·cases h
   ·split at h
    ·rename_i l hl
     split at h
     ·rename_i hc
      simp only [Option.some.injEq] at h
      subst h
      obtain ⟨i,hi⟩:=Option.isSome_iff_exists.1 hc.2
      simp only [mkV,hu]
      rw [e0,run_equalIn_array w _ _ _ hu hi,List.range_eq_range']
      have:=eqItems_run (P:=P) (d:=d + m) hl hc.1 hc.2 (fun a b e w he => shape_run m d el l hl a b e w he) n 0 a b [] [] e w (by simp) (by simp) he
      simpa using this
     ·cases h
    ·cases h
  ·cases h
theorem aggOf_rep {C : Ctx} {x : AVal} {v : Value} {a : List Dat} (h : RepA C x v) (ha : aggOf x = some a) : ∃ cs : Array Value,v = .agg cs ∧ AggD C.F a cs.toList:=by
 have key : ∀ (l : List AVal) (ds : List Dat) (cs : List Value),aggOf.datsOf l = some ds → RepL C l cs → l.all AVal.leaf = true → AggD C.F ds cs:=by
  intro l
  induction l with
  | nil => intro ds cs h1 h2 _; simp only [aggOf.datsOf,Option.some.injEq] at h1; subst h1; simpa [RepL,AggD] using h2
  | cons y r ih =>
   intro ds cs h1 h2 h3
   simp only [RepL] at h2
   obtain ⟨c,cs',rfl,h4,h5⟩:=h2
   simp only [List.all_cons,Bool.and_eq_true] at h3
   cases y <;> simp only [aggOf.datsOf,reduceCtorEq] at h1
   rename_i d
   cases e : aggOf.datsOf r with
   | none => simp [e] at h1
   | some ds' =>
    simp [e] at h1
    subst h1
    have hd : d.isAgg = false:=by simpa using h3.1
    simp only [RepA] at h4
    simp only [AggD]
    exact ⟨c,cs',rfl,hd,h4.cell hd,ih ds' cs' e h5 h3.2⟩
 unfold aggOf at ha
 split at ha
 ·simp only [Option.some.injEq] at ha
  subst ha
  simp only [RepA] at h
  exact h.agg
 ·simp only [RepA] at h
  obtain ⟨cs,h1,h2,h3,_⟩:=h
  exact ⟨cs,h1,key _ _ _ ha h2 h3⟩
 ·cases ha
theorem bk_agg {t : TypeId} {sh : List Sh} (h : bkOf P t = some (.agg sh)) : shapeOf P 6 t = some sh ∧ P.eqGuardType P.depth t = false ∧ ∀ a,mkV P t a = .agg (a.map valD).toArray:=by
 unfold bkOf at h
 split at h <;> (try (simp at h; done))
 ·rename_i fs hu
  have hs : shapeOf P 6 t = some sh:=by
   cases e : shapeOf P 6 t with
   | none => simp [e] at h
   | some l => simp [e] at h; rw [h]
  refine ⟨hs,?_,fun a => by simp [mkV,hu]⟩
  unfold shapeOf at hs
  rw [hu] at hs
  simp only at hs
  split at hs
  ·cases hs
  ·rename_i hg; simp only [Bool.or_eq_true,not_or,Bool.not_eq_true] at hg; exact hg.2
 ·rename_i n e hu
  have hs : shapeOf P 6 t = some sh:=by
   cases e : shapeOf P 6 t with
   | none => simp [e] at h
   | some l => simp [e] at h; rw [h]
  refine ⟨hs,?_,fun a => by simp [mkV,hu]⟩
  unfold shapeOf at hs
  rw [hu] at hs
  simp only at hs
  split at hs
  ·cases hs
  ·rename_i hg; simpa using hg
theorem op_bin (hI : Inv B C) (hE : RepE C g a) {op : BinOp} {t u : TypeId} {x y : Operand} {ax ay : AX} {bk : BK} {v : AVal} (ho : o.op = .binOp op t x y u) (hbk : bkOf P t = some bk)
  (hx : cX x = some ax) (hy : cX y = some ay) (h : binE bk op (evX g ax) (evX g ay) = some v) : Does P o a C.w (Owes B C v []):=by
 have h1:=zia7 hE hx
 have h2:=zia7 hE hy
 suffices hs : (plainV (a.eval x) = true ∨ (eqGuard op t x y (a.eval x) (a.eval y)).run P C.w = .ok () C.w) ∧ ∃ val,(binOp op t (a.eval x) (a.eval y)).run P C.w = .ok val C.w ∧ RepA C v val by
  obtain ⟨hp,val,hr,hv⟩:=hs
  refine zka7 hI ?_ hv
  have hp' : (eqGuard op t x y (a.eval x) (a.eval y)).run P C.w = .ok () C.w:=hp.elim (fun h => eqGuard_run op t x y h C.w) id
  simp only [execOp,ho,Sem.run_bind,hp',Result.andThen_ok,hr,Sem.run_pure]
 generalize evX g ax = X at h h1
 generalize evX g ay = Y at h h2
 unfold binE at h
 split at h
 ·rename_i k x' k' y'
  have e1:=rep_int h1
  have e2:=rep_int h2
  rw [e1,e2]
  refine ⟨.inl rfl,?_⟩
  split at h
  ·exact shiftE_run C h t C.w
  ·exact shiftE_run C h t C.w
  ·rename_i hs1 hs2
   split at h
   ·rename_i hk
    subst hk
    exact intE_run C h ⟨hs1,hs2⟩ t C.w
   ·cases h
 ·rename_i x' y'
  have e1:=rep_bool h1
  have e2:=rep_bool h2
  rw [e1,e2]
  refine ⟨.inl rfl,?_⟩
  have hu : P.underlying t = some .bool:=by
   unfold bkOf at hbk
   split at hbk <;> simp_all
  have hq:=run_eqlBool hu C.w x' y'
  have hc : cmpE op (x' == y') = some v:=by cases op <;> simp_all [boolE,cmpE]
  exact zpf7 C hc hq (by simp) (by simp) (by simp) (by simp)
 ·rename_i x' y'
  have e1:=rep_str h1
  have e2:=rep_str h2
  rw [e1,e2]
  exact ⟨.inl rfl,strE_run C h t C.w⟩
 ·rename_i X'
  have e2 : a.eval y = .pointer none:=by simpa only [RepA] using h2
  obtain ⟨e,hu⟩ : ∃ e,P.underlying t = some (.pointer e):=by
   unfold bkOf at hbk
   split at hbk <;> simp_all
  split at h
  ·rename_i b hb
   rw [e2]
   rcases nilPE_ptr hb h1 with ⟨hb1,hb2⟩ | ⟨hb1,p,hb2⟩
   ·rw [hb2]
    subst hb1
    exact ⟨.inl rfl,zpf7 C h (run_eqlPtr hu C.w none none (.inl rfl)) (by simp) (by simp) (by simp) (by simp)⟩
   ·rw [hb2]
    subst hb1
    exact ⟨.inl rfl,zpf7 C h (run_eqlPtr hu C.w (some p) none (.inr rfl)) (by simp) (by simp) (by simp) (by simp)⟩
  ·cases h
 ·rename_i Y' _
  have e1 : a.eval x = .pointer none:=by simpa only [RepA] using h1
  obtain ⟨e,hu⟩ : ∃ e,P.underlying t = some (.pointer e):=by
   unfold bkOf at hbk
   split at hbk <;> simp_all
  split at h
  ·rename_i b hb
   rw [e1]
   rcases nilPE_ptr hb h2 with ⟨hb1,hb2⟩ | ⟨hb1,p,hb2⟩
   ·rw [hb2]
    subst hb1
    exact ⟨.inl rfl,zpf7 C h (run_eqlPtr hu C.w none none (.inl rfl)) (by simp) (by simp) (by simp) (by simp)⟩
   ·rw [hb2]
    subst hb1
    exact ⟨.inl rfl,zpf7 C h (run_eqlPtr hu C.w none (some p) (.inl rfl)) (by simp) (by simp) (by simp) (by simp)⟩
  ·cases h
 ·rename_i X'
  have e2 : a.eval y = .slice none 0 0:=by simpa only [RepA] using h2
  obtain ⟨e,hu⟩ : ∃ e,P.underlying t = some (.slice e):=by
   unfold bkOf at hbk
   split at hbk <;> simp_all
  split at h
  ·rename_i b hb
   rw [e2]
   obtain ⟨p,n,c,hv,hb2⟩:=nilSE_slc hb h1
   rw [hv]
   subst hb2
   exact ⟨.inl rfl,zpf7 C h (run_eqlSlc hu C.w p n c) (by simp) (by simp) (by simp) (by simp)⟩
  ·cases h
 ·rename_i sh _ _
  split at h
  ·rename_i xa ya hxa hya
   split at h
   ·rename_i e he
    obtain ⟨xs,e1,g1⟩:=aggOf_rep h1 hxa
    obtain ⟨ys,e2,g2⟩:=aggOf_rep h2 hya
    obtain ⟨q1,q2⟩:=zie7 he g1 g2
    obtain ⟨hsh,hguard,hmk⟩:=bk_agg hbk
    have hxs : Value.agg xs = mkV P t xa:=by rw [hmk,← q1]
    have hys : Value.agg ys = mkV P t ya:=by rw [hmk,← q2]
    rw [e1,e2]
    refine ⟨.inr (run_eqGuard_agg C.w op t x y xs ys hguard),zpf7 C h ?_ (by simp) (by simp) (by simp) (by simp)⟩
    rw [hxs,hys]
    exact shape_run 6 9994 t _ hsh xa ya e C.w he
   ·cases h
  ·cases h
 ·cases h
theorem op_un (hI : Inv B C) (hE : RepE C g a) {op : UnOp} {t : TypeId} {x : Operand} {ax : AX} {v : AVal} (ho : o.op = .unOp op t x) (hx : cX x = some ax)
  (h : unE op (evX g ax) = some v) : Does P o a C.w (Owes B C v []):=by
 have h1:=zia7 hE hx
 generalize evX g ax = X at h h1
 unfold unE at h
 split at h
 ·rename_i k n
  simp only [Option.some.injEq] at h
  subst h
  refine zka7 hI ?_ (zqa7 C k _)
  simp [execOp,ho,rep_int h1,Op.unary,Op.intArith]
 ·rename_i k n
  simp only [Option.some.injEq] at h
  subst h
  refine zka7 hI ?_ (zqa7 C k _)
  simp only [execOp,ho,rep_int h1,Op.unary,Op.intBits]
  rfl
 ·rename_i b
  simp only [Option.some.injEq] at h
  subst h
  refine zka7 hI ?_ (zsb7 C _)
  simp [execOp,ho,rep_bool h1,Op.unary]
 ·cases h
theorem op_cvt (hI : Inv B C) (hE : RepE C g a) {s d : TypeId} {k k' k'' : IntKind} {x : Operand} {ax : AX} {n : Int} (ho : o.op = .convert s d x) (hx : cX x = some ax)
  (hs : P.underlying s = some (.int k')) (hd : P.underlying d = some (.int k)) (h : evX g ax = .dat (.int k'' n)) : Does P o a C.w (Owes B C (.dat (.int k (k.wrap n))) []):=by
 have h1:=zia7 hE hx
 rw [h] at h1
 refine zka7 hI ?_ (zqa7 C k _)
 simp [execOp,ho,rep_int h1,convert,run_underlying hs,run_underlying hd,Conv.intToInt]
theorem fieldT_spec {t : TypeId} {f off : Nat} {q : TI} (h : fieldT P t f = some (off,q)) : ∃ fs fd,P.underlying t = some (.struct fs) ∧ fs[f]? = some fd ∧ tI P fd.type = some q ∧ fd.offset = off:=by
 unfold fieldT at h
 split at h
 ·rename_i fs hu
  split at h
  ·rename_i fd hf
   cases e : tI P fd.type with
   | none => simp [e] at h
   | some q' => simp [e] at h; exact ⟨fs,fd,hu,hf,by rw [e,h.2],h.1⟩
  ·cases h
 ·cases h
theorem ptrAdd_rep {n : Nat} {x v : AVal} {val : Value} (h : ptrAdd n x = some v) (hr : RepA C x val) : ∃ p,val = .pointer (some p) ∧ RepA C v (.pointer (some (p.add n))):=by
 cases x <;> simp [ptrAdd] at h
 case ref id off =>
  subst h
  simp only [RepA] at hr
  obtain ⟨L,h1,h2⟩:=hr
  refine ⟨_,h2,?_⟩
  simp only [RepA]
  exact ⟨L,h1,by rw [Addr.add_mk,Nat.add_assoc]⟩
 case eref id ver i off =>
  subst h
  simp only [RepA] at hr
  obtain ⟨A,p,h1,h2,h3,h4⟩:=hr
  refine ⟨_,h3,?_⟩
  simp only [RepA]
  refine ⟨A,_,h1,h2,rfl,fun e => ⟨(h4 e).1,?_⟩⟩
  rw [(h4 e).2,Addr.add_mk,Nat.add_assoc]
 case fp l =>
  obtain ⟨hn,h⟩:=h
  subst h
  simp only [RepA] at hr
  obtain ⟨b,o,cs,h1,h2,h3⟩:=hr
  refine ⟨_,h1,?_⟩
  simp only [RepA]
  refine ⟨b,o + n,cs.drop n,by rw [Addr.add_mk],h2.drop n,fun j v hj => ?_⟩
  rw [List.getElem?_drop] at hj
  have:=h3 _ _ hj
  rwa [← Nat.add_assoc] at this
theorem op_fAddr (hI : Inv B C) (hE : RepE C g a) {t : TypeId} {x : Operand} {f off : Nat} {q : TI} {ax : AX} {v : AVal} (ho : o.op = .fieldAddr t x f) (hx : cX x = some ax)
  (hf : fieldT P t f = some (off,q)) (hq : q.size ≠ 0) (h : ptrAdd off (evX g ax) = some v) : Does P o a C.w (Owes B C v []):=by
 obtain ⟨p,h1,h2⟩:=ptrAdd_rep h (zia7 hE hx)
 obtain ⟨fs,fd,hu,hfd,hti,hoff⟩:=fieldT_spec hf
 refine zka7 hI ?_ h2
 simp [execOp,ho,Instr.fieldAt,run_underlying hu,hfd,h1,Instr.sureAddr,fieldPlace,run_sizeOf hti,hq,hoff]
theorem run_part {t : TypeId} {q : TI} (h : tI P t = some q) (cs : Array Value) (off : Nat) (w : World) (hn : q.agg = false → off < cs.size) :
  (part t cs off).run P w = .ok (if q.agg then .agg (cs.extract off (off + q.size)) else cs.getD off undef) w:=by
 unfold part
 simp only [Sem.run_bind,run_isAgg h,Result.andThen_ok]
 cases e : q.agg
 ·have:=hn e
  simp [this]
 ·simp [run_sizeOf h]
theorem partE_rep {agg : Bool} {off n : Nat} {x v : AVal} {val : Value} (h : partE agg off n x = some v) (hn : 1 ≤ n) (hr : RepA C x val) :
  ∃ cs : Array Value,val = .agg cs ∧ off < cs.size ∧ RepA C v (if agg then .agg (cs.extract off (off + n)) else cs.getD off undef):=by
 unfold partE at h
 split at h
 ·rename_i l
  split at h
  ·rename_i hb
   simp only [RepA] at hr
   obtain ⟨cs,h1,h2,h3,h4⟩:=hr
   have hl : cs.size = l.length:=by have:=h2.length; simpa using this
   refine ⟨cs,h1,by omega,?_⟩
   cases agg
   ·simp only [Bool.false_eq_true,if_false] at h ⊢
    obtain ⟨c,hc,hr⟩:=h2.get h
    have : cs.getD off undef = c:=by
     have : cs[off]? = some c:=by simpa using hc
     simp [Array.getD_eq_getD_getElem?,this]
    rw [this]; exact hr
   ·simp only [if_true,Option.some.injEq] at h ⊢
    subst h
    simp only [RepA]
    refine ⟨_,rfl,?_,?_,?_⟩
    ·have:=(h2.drop off).take n
     simpa [Array.toList_extract,List.extract_eq_take_drop] using this
    ·rw [List.all_eq_true] at h3 ⊢
     exact fun x hx => h3 x (List.mem_of_mem_drop (List.mem_of_mem_take hx))
    ·intro c hc
     have : c ∈ ((cs.toList.drop off).take n):=by
      have:=Array.mem_toList_iff.2 hc
      simpa [Array.toList_extract,List.extract_eq_take_drop] using this
     exact h4 c (Array.mem_toList_iff.1 (List.mem_of_mem_drop (List.mem_of_mem_take this)))
  ·cases h
 ·rename_i l
  split at h
  ·rename_i hb
   simp only [RepA] at hr
   obtain ⟨cs,h1,h2⟩:=hr.agg
   have hl : cs.size = l.length:=by have:=h2.length; simpa using this
   refine ⟨cs,h1,by omega,?_⟩
   cases agg
   ·simp only [Bool.false_eq_true,if_false] at h ⊢
    cases e : l[off]? with
    | none => simp [e] at h
    | some d =>
     simp [e] at h
     subst h
     obtain ⟨c,hc,hd,hr⟩:=h2.get e
     have : cs.getD off undef = c:=by
      have : cs[off]? = some c:=by simpa using hc
      simp [Array.getD_eq_getD_getElem?,this]
     rw [this]
     exact zjb7 hd hr
   ·simp only [if_true,Option.some.injEq] at h ⊢
    subst h
    simp only [RepA]
    refine repV_agg ?_
    have:=(h2.drop off).take n
    simpa [Array.toList_extract,List.extract_eq_take_drop] using this
  ·cases h
 ·cases h
theorem op_fld (hI : Inv B C) (hE : RepE C g a) {t : TypeId} {x : Operand} {f off : Nat} {q : TI} {ax : AX} {v : AVal} (ho : o.op = .field t x f) (hx : cX x = some ax)
  (hf : fieldT P t f = some (off,q)) (hq : 1 ≤ q.size) (h : partE q.agg off q.size (evX g ax) = some v) : Does P o a C.w (Owes B C v []):=by
 obtain ⟨cs,h1,h2,h3⟩:=partE_rep h hq (zia7 hE hx)
 obtain ⟨fs,fd,hu,hfd,hti,hoff⟩:=fieldT_spec hf
 refine zka7 hI ?_ h3
 simp [execOp,ho,Instr.field,run_underlying hu,hfd,h1,asAgg,hoff,run_part hti cs off C.w (fun _ => h2)]
theorem zza7 {x : AVal} {n : Int} {v : Value} (h : zmb7 x = some n) (hr : RepA C x v) : ∃ k,v = .int k n:=by
 unfold zmb7 at h
 split at h
 ·simp at h; subst h; exact ⟨_,rep_int hr⟩
 ·cases h
theorem iAddrE_rep {sz : Nat} {x v : AVal} {i : Int} {val : Value} (h : iAddrE sz x i = some v) (hr : RepA C x val) :
  ∃ p len cap,val = .slice (some p) len cap ∧ 0 ≤ i ∧ i < len ∧ RepA C v (.pointer (some (p.add (i.toNat * sz)))):=by
 unfold iAddrE at h
 split at h
 ·rename_i id ver sz' off len
  split at h
  ·rename_i hc
   obtain ⟨rfl,h0,h1⟩:=hc
   simp only [Option.some.injEq] at h
   subst h
   simp only [RepA] at hr
   obtain ⟨A,p,cap,h2,h3,h4,h5,h6,h7⟩:=hr
   have hp:=h6 (by omega)
   cases p with
   | none => simp at hp
   | some p =>
    refine ⟨p,len,cap,h4,h0,h1,?_⟩
    simp only [RepA]
    refine ⟨A,_,h2,h3,rfl,fun e => ?_⟩
    obtain ⟨g1,g2,g3,g4⟩:=h7 e
    have:=g4 (by omega)
    simp only [Option.some.injEq] at this
    refine ⟨by omega,?_⟩
    rw [this,Addr.add_mk]
    congr 1
    rw [← g1,Nat.add_mul]
    omega
  ·cases h
 ·rename_i l
  split at h
  ·rename_i h0
   cases e : l[i.toNat]? with
   | none => simp [e] at h
   | some d =>
    simp only [e] at h
    split at h
    ·rename_i hw
     simp only [Option.some.injEq] at h
     subst h
     simp only [RepA] at hr
     have:=hr.cell rfl
     simp only [RepD] at this
     obtain ⟨a',cap,q1,q2,q3⟩:=this
     simp only [List.cons.injEq,and_true] at q1
     have hlt : i.toNat < l.length:=(List.getElem?_eq_some_iff.1 e).1
     rcases q3 with q3 | ⟨b,o,sz',ha,hrow⟩
     ·subst q3; simp at hlt
     ·subst ha
      obtain ⟨cs,r1,r2,r3⟩:=hrow.get e
      have hsz : sz' = sz:=by rw [← r1,r2.length,hw]
      subst hsz
      refine ⟨_,_,_,q1,h0,by omega,?_⟩
      simp only [RepA]
      exact ⟨b,_,cs,by rw [Addr.add_mk],r2.cellsAgg,r3⟩
    ·cases h
  ·cases h
 ·cases h
theorem op_iAddr (hI : Inv B C) (hE : RepE C g a) {t e : TypeId} {x i : Operand} {q : TI} {ax ai : AX} {v : AVal} {n : Int} (ho : o.op = .indexAddr t x i) (hx : cX x = some ax) (hi : cX i = some ai)
  (ht : P.underlying t = some (.slice e)) (hq : tI P e = some q) (hn : zmb7 (evX g ai) = some n) (h : iAddrE q.size (evX g ax) n = some v) : Does P o a C.w (Owes B C v []):=by
 obtain ⟨p,len,cap,h1,h2,h3,h4⟩:=iAddrE_rep h (zia7 hE hx)
 obtain ⟨k,hk⟩:=zza7 hn (zia7 hE hi)
 refine zka7 hI ?_ h4
 simp [execOp,ho,Instr.indexAt,hk,asIntOf,run_underlying ht,h1,h2,h3,run_sizeOf hq]
theorem op_iAddrA (hI : Inv B C) (hE : RepE C g a) {t e : TypeId} {m : Nat} {x i : Operand} {q : TI} {ax ai : AX} {v : AVal} {n : Int} (ho : o.op = .indexAddr t x i) (hx : cX x = some ax) (hi : cX i = some ai)
  (ht : P.underlying t = some (.array m e)) (hq : tI P e = some q) (hn : zmb7 (evX g ai) = some n) (hb : 0 ≤ n ∧ n < m) (h : ptrAdd (n.toNat * q.size) (evX g ax) = some v) : Does P o a C.w (Owes B C v []):=by
 obtain ⟨p,h1,h2⟩:=ptrAdd_rep h (zia7 hE hx)
 obtain ⟨k,hk⟩:=zza7 hn (zia7 hE hi)
 refine zka7 hI ?_ h2
 simp [execOp,ho,Instr.indexAt,hk,asIntOf,run_underlying ht,h1,hb.1,hb.2,Instr.sureAddr,run_sizeOf hq]
theorem op_idx (hI : Inv B C) (hE : RepE C g a) {t e : TypeId} {m : Nat} {x i : Operand} {q : TI} {ax ai : AX} {v : AVal} {n : Int} (ho : o.op = .index t x i) (hx : cX x = some ax) (hi : cX i = some ai)
  (ht : P.underlying t = some (.array m e)) (hq : tI P e = some q) (hq1 : 1 ≤ q.size) (hn : zmb7 (evX g ai) = some n) (hb : 0 ≤ n ∧ n < m) (h : partE q.agg (n.toNat * q.size) q.size (evX g ax) = some v) : Does P o a C.w (Owes B C v []):=by
 obtain ⟨cs,h1,h2,h3⟩:=partE_rep h hq1 (zia7 hE hx)
 obtain ⟨k,hk⟩:=zza7 hn (zia7 hE hi)
 refine zka7 hI ?_ h3
 simp [execOp,ho,Instr.index,hk,asIntOf,run_underlying ht,h1,hb.1,hb.2,run_sizeOf hq,run_part hq cs _ C.w (fun _ => h2)]
theorem op_idxS (hI : Inv B C) (hE : RepE C g a) {t : TypeId} {x i : Operand} {ax ai : AX} {n : Int} {s : List UInt8} {b : UInt8} (ho : o.op = .index t x i) (hx : cX x = some ax) (hi : cX i = some ai)
  (ht : P.underlying t = some .string) (hn : zmb7 (evX g ai) = some n) (hs : evX g ax = .dat (.str s)) (h0 : 0 ≤ n) (hb : s[n.toNat]? = some b) : Does P o a C.w (Owes B C (.dat (.int .u8 b.toNat)) []):=by
 have h1:=zia7 hE hx
 rw [hs] at h1
 obtain ⟨k,hk⟩:=zza7 hn (zia7 hE hi)
 refine zka7 hI ?_ (zqa7 C _ _)
 have hlt:=(List.getElem?_eq_some_iff.1 hb).1
 have hsz : n.toNat < (ByteArray.mk s.toArray).size:=by simpa [ByteArray.size] using hlt
 have hget : (ByteArray.mk s.toArray)[n.toNat]? = some b:=by
  rw [getElem?_pos (ByteArray.mk s.toArray) n.toNat hsz]
  have h2:=(List.getElem?_eq_some_iff.1 hb).2
  simpa [ByteArray.getElem_eq_getElem_data] using h2
 simp [execOp,ho,Instr.index,hk,asIntOf,run_underlying ht,rep_str h1,h0,hget]
theorem op_ext (hI : Inv B C) (hE : RepE C g a) {x : Operand} {i : Nat} {ax : AX} {v : AVal} {l : List AVal} (ho : o.op = .extract x i) (hx : cX x = some ax) (hl : evX g ax = .tup l) (hv : l[i]? = some v) :
  Does P o a C.w (Owes B C v []):=by
 have h1:=zia7 hE hx
 rw [hl] at h1
 simp only [RepA] at h1
 obtain ⟨cs,h2,h3⟩:=h1
 obtain ⟨c,h4,h5⟩:=h3.get hv
 refine zka7 hI ?_ h5
 have : cs[i]? = some c:=by simpa using h4
 simp [execOp,ho,Instr.extract,h2,this]
theorem lenE_rep {x v : AVal} {val : Value} (h : lenE x = some v) (hr : RepA C x val) : ∃ p n c,val = .slice p n c ∧ v = .dat (.int .i64 n):=by
 unfold lenE at h
 split at h <;> simp only [Option.some.injEq,reduceCtorEq] at h <;> subst h <;> simp only [RepA] at hr
 ·obtain ⟨A,p,cap,_,_,h4,_⟩:=hr
  exact ⟨_,_,_,h4,rfl⟩
 ·have:=hr.cell rfl
  simp only [RepD] at this
  obtain ⟨a,cap,h1,_⟩:=this
  simp only [List.cons.injEq,and_true] at h1
  exact ⟨_,_,_,h1,rfl⟩
 ·exact ⟨none,0,0,hr,rfl⟩
 ·obtain ⟨p,c,h1,h2⟩:=hr
  exact ⟨p,0,c,h1,rfl⟩
 ·obtain ⟨p,h1⟩:=hr
  exact ⟨p,0,0,h1,rfl⟩
 ·obtain ⟨b,o,cap,cs,h1,_⟩:=hr
  exact ⟨_,_,_,h1,rfl⟩
theorem op_len (hI : Inv B C) (hE : RepE C g a) {c : Call} {x : Operand} {ax : AX} {v : AVal} {t e : TypeId} (ho : o.op = .call c) (hc : c.callee = .builtin .len) (ha : c.args = #[x]) (ht : c.argTypes[0]? = some t)
  (hu : P.underlying t = some (.slice e)) (hx : cX x = some ax) (h : lenE (evX g ax) = some v) : Does P o a C.w (Owes B C v []):=by
 obtain ⟨p,n,cc,h1,rfl⟩:=lenE_rep h (zia7 hE hx)
 refine zka7 hI ?_ (zqa7 C _ _)
 have hrun : (Builtin.len_ c.argTypes o.type #[a.eval x]).run P C.w = .ok (.int .i64 n) C.w:=by
  unfold Builtin.len_
  simp [ht,h1,run_underlying hu,goInt]
 simp [execOp,ho,resolve,hc,ha,invoke,builtin,hrun]
theorem op_cap (hI : Inv B C) (hE : RepE C g a) {c : Call} {x : Operand} {ax : AX} {v : AVal} {t e : TypeId} (ho : o.op = .call c) (hc : c.callee = .builtin .cap) (ha : c.args = #[x]) (ht : c.argTypes[0]? = some t)
  (hu : P.underlying t = some (.slice e)) (hx : cX x = some ax) (h : capE (evX g ax) = some v) : Does P o a C.w (Owes B C v []):=by
 have hr:=zia7 (C:=C) hE hx
 have : (∃ p n,a.eval x = .slice p n 0) ∧ v = .dat (.int .i64 0):=by
  unfold capE at h
  split at h
  ·rename_i e; rw [e] at hr; simp only [RepA] at hr; cases h; exact ⟨⟨_,_,hr⟩,rfl⟩
  ·rename_i e; rw [e] at hr; simp only [RepA] at hr; obtain ⟨p,hr⟩:=hr; cases h; exact ⟨⟨_,_,hr⟩,rfl⟩
  ·cases h
 obtain ⟨⟨p,n,h1⟩,rfl⟩:=this
 refine zka7 hI ?_ (zqa7 C _ _)
 have hrun : (Builtin.cap_ c.argTypes o.type #[a.eval x]).run P C.w = .ok (.int .i64 0) C.w:=by
  unfold Builtin.cap_
  simp [ht,h1,run_underlying hu,goInt]
 simp [execOp,ho,resolve,hc,ha,invoke,builtin,hrun]
theorem op_lenS (hI : Inv B C) (hE : RepE C g a) {c : Call} {x : Operand} {ax : AX} {v : AVal} {t : TypeId} (ho : o.op = .call c) (hc : c.callee = .builtin .len) (ha : c.args = #[x]) (ht : c.argTypes[0]? = some t)
  (hu : P.underlying t = some .string) (hx : cX x = some ax) (h : lenS (evX g ax) = some v) : Does P o a C.w (Owes B C v []):=by
 have hr:=zia7 hE hx
 unfold lenS at h
 split at h
 ·rename_i s hs
  rw [hs] at hr
  simp only [Option.some.injEq] at h
  subst h
  refine zka7 hI ?_ (zqa7 C _ _)
  have hrun : (Builtin.len_ c.argTypes o.type #[a.eval x]).run P C.w = .ok (.int .i64 s.length) C.w:=by
   unfold Builtin.len_
   simp only [ht,rep_str hr]
   simp [run_underlying hu,goInt]
   rfl
  simp [execOp,ho,resolve,hc,ha,invoke,builtin,hrun]
 ·cases h
theorem mmE_run {isMax : Bool} {x y v : AVal} {u w' : Value} (h : mmE isMax x y = some v) (hx : RepA C x u) (hy : RepA C y w') (w : World) :
  ∃ val,(if isMax then Builtin.max2 u w' else Builtin.min2 u w').run P w = .ok val w ∧ RepA C v val:=by
 unfold mmE at h
 split at h
 ·rename_i k p k' q
  split at h
  ·rename_i hk
   subst hk
   rw [rep_int hx,rep_int hy]
   cases isMax
   ·simp only [Bool.false_eq_true,if_false,Option.some.injEq] at h ⊢
    subst h
    exact ⟨_,rfl,zqa7 _ _ _⟩
   ·simp only [if_true,Option.some.injEq] at h ⊢
    subst h
    exact ⟨_,rfl,zqa7 _ _ _⟩
  ·cases h
 ·cases h
theorem mmsE_run {isMax : Bool} : ∀ {r : List AVal} {x v : AVal} {u : Value} {us : List Value},mmsE isMax x r = some v → RepA C x u → RepL C r us → ∀ (w : World),
  ∃ val,(us.foldlM (if isMax then Builtin.max2 else Builtin.min2) u).run P w = .ok val w ∧ RepA C v val
 | [],x,v,u,us,h,hx,hr,w => by
  simp only [RepL] at hr
  subst hr
  simp only [mmsE] at h
  split at h
  ·simp only [Option.some.injEq] at h
   subst h
   exact ⟨u,rfl,hx⟩
  ·cases h
 | y :: r,x,v,u,us,h,hx,hr,w => by
  simp only [RepL] at hr
  obtain ⟨c,cs,rfl,h2,h3⟩:=hr
  simp only [mmsE] at h
  split at h
  ·rename_i z hz
   obtain ⟨val,h4,h5⟩:=mmE_run (P:=P) hz hx h2 w
   obtain ⟨val',h6,h7⟩:=mmsE_run h h5 h3 w
   refine ⟨val',?_,h7⟩
   have h4' : ((if isMax then Builtin.max2 else Builtin.min2) u c).run P w = .ok val w:=by cases isMax <;> simpa using h4
   simp only [List.foldlM_cons,Sem.run_bind,h4',Result.andThen_ok,h6]
  ·cases h
theorem op_mm (hI : Inv B C) (hE : RepE C g a) {isMax : Bool} {c : Call} {ax : AX} {r : List AX} {v : AVal} (ho : o.op = .call c) (hc : c.callee = .builtin (if isMax then .max else .min))
  (ha : cXs c.args = some (ax :: r)) (h : mmsE isMax (evX g ax) (r.map (evX g)) = some v) : Does P o a C.w (Owes B C v []):=by
 have hr:=cXs_rep (C:=C) hE ha
 simp only [List.map_cons,RepL] at hr
 obtain ⟨u,us,h1,h2,h3⟩:=hr
 obtain ⟨val,h4,h5⟩:=mmsE_run (P:=P) h h2 h3 C.w
 refine zka7 hI ?_ h5
 have hargs : (c.args.map a.eval).toList = u :: us:=by simpa using h1
 have hargs' : c.args.map a.eval = (u :: us).toArray:=by rw [← hargs]
 cases isMax
 ·simp only [Bool.false_eq_true,if_false] at hc h4
  simp [execOp,ho,resolve,hc,invoke,builtin,Builtin.min_,hargs',h4]
 ·simp only [if_true] at hc h4
  simp [execOp,ho,resolve,hc,invoke,builtin,Builtin.max_,hargs',h4]
def optX (x : Option Operand) : Option (Option AX) :=
 match x with
 | some l => (cX l).map some
 | none => some none
theorem run_sliceBound {v : Value} {k : IntKind} {i : Int} (hv : v = .int k i) (y : Nat) (code : BoundsCode) (h : 0 ≤ i ∧ i ≤ y) (w : World) : (Instr.sliceBound v y code).run P w = .ok i.toNat w:=by
 subst hv
 simp [Instr.sliceBound,asIntOf,h.1,h.2]
theorem zdf7 (isSlice : Bool) (len cap : Nat) {lo hi : Option Value} {l h : Int} (w : World)
  (hlo : (lo = none ∧ l = 0) ∨ ∃ k,lo = some (.int k l)) (hhi : (hi = none ∧ h = len) ∨ ∃ k,hi = some (.int k h)) (hb : 0 ≤ l ∧ l ≤ h ∧ h ≤ cap) :
  (Instr.sliceBounds isSlice len cap lo hi none).run P w = .ok (l.toNat,h.toNat,cap) w:=by
 have hs1 : ∀ (k : IntKind) (y : Nat) (code : BoundsCode),(y : Int) = h → (Instr.sliceBound (.int k l) y code).run P w = .ok l.toNat w:=fun k y code hy => run_sliceBound rfl y code ⟨hb.1,by omega⟩ w
 have hs2 : ∀ (k : IntKind) (code : BoundsCode),(Instr.sliceBound (.int k h) cap code).run P w = .ok h.toNat w:=fun k code => run_sliceBound rfl cap code ⟨by omega,hb.2.2⟩ w
 have e1 : ((h.toNat : Nat) : Int) = h:=by omega
 rcases hlo with ⟨rfl,rfl⟩ | ⟨k,rfl⟩ <;> rcases hhi with ⟨rfl,rfl⟩ | ⟨k',rfl⟩
 ·simp [Instr.sliceBounds]
 ·simp only [Instr.sliceBounds,Sem.run_bind,Sem.run_pure,Result.andThen_ok,hs2]; rfl
 ·have:=hs1 k len
  simp only [Instr.sliceBounds,Sem.run_bind,Sem.run_pure,Result.andThen_ok,Int.toNat_natCast]
  rw [hs1 k len _ rfl]; rfl
 ·simp only [Instr.sliceBounds,Sem.run_bind,Sem.run_pure,Result.andThen_ok,hs2]
  rw [hs1 k h.toNat _ e1]; rfl
theorem optX_lo {C : Ctx} {g : Nat → AVal} (hE : RepE C g a) {lo : Option Operand} {alo : Option AX} (h : optX lo = some alo) {l : Int}
  (hl : (match alo with | some l => zmb7 (evX g l) | none => some 0) = some l) : (lo.map a.eval = none ∧ l = 0) ∨ ∃ k,lo.map a.eval = some (.int k l):=by
 cases lo with
 | none => simp [optX] at h; subst h; simp at hl; exact .inl ⟨rfl,hl.symm⟩
 | some x =>
  simp only [optX] at h
  cases e : cX x with
  | none => simp [e] at h
  | some ax =>
   simp [e] at h
   subst h
   obtain ⟨k,hk⟩:=zza7 hl (zia7 hE e)
   exact .inr ⟨k,by simp [hk]⟩
theorem optX_hi {C : Ctx} {g : Nat → AVal} (hE : RepE C g a) {hi : Option Operand} {ahi : Option AX} (h : optX hi = some ahi) {hh : Option Int}
  (hl : (match ahi with | some l => (zmb7 (evX g l)).map some | none => some none) = some hh) (len : Nat) : (hi.map a.eval = none ∧ hh.getD len = len) ∨ ∃ k,hi.map a.eval = some (.int k (hh.getD len)):=by
 cases hi with
 | none => simp [optX] at h; subst h; simp at hl; subst hl; exact .inl ⟨rfl,rfl⟩
 | some x =>
  simp only [optX] at h
  cases e : cX x with
  | none => simp [e] at h
  | some ax =>
   simp [e] at h
   subst h
   simp only at hl
   cases e' : zmb7 (evX g ax) with
   | none => simp [e'] at hl
   | some n =>
    simp [e'] at hl
    subst hl
    obtain ⟨k,hk⟩:=zza7 e' (zia7 hE e)
    exact .inr ⟨k,by simp [hk]⟩
theorem RowD.drop {F : Froz} : ∀ {l : List Dat} {b o sz : Nat},RowD F l b o sz → ∀ n,RowD F (l.drop n) b (o + n * sz) sz:=by
 intro l b o sz h n
 refine rowD_of fun i d hd => ?_
 rw [List.getElem?_drop] at hd
 obtain ⟨cs,h1,h2,h3⟩:=h.get hd
 refine ⟨cs,h1,h2,?_⟩
 rwa [show o + n * sz + i * sz = o + (n + i) * sz by rw [Nat.add_mul]; omega]
theorem RowD.take {F : Froz} : ∀ {l : List Dat} {b o sz : Nat},RowD F l b o sz → ∀ n,RowD F (l.take n) b o sz:=by
 intro l b o sz h n
 refine rowD_of fun i d hd => ?_
 rw [List.getElem?_take] at hd
 split at hd
 ·exact h.get hd
 ·cases hd
theorem sliceE_rep {sz : Nat} {x v : AVal} {lo : Int} {hi : Option Int} {val : Value} (h : sliceE sz x lo hi = some v) (hr : RepA C x val) :
  ∃ p len cap,val = .slice p len cap ∧ 0 ≤ lo ∧ lo ≤ hi.getD len ∧ hi.getD len ≤ cap ∧
   RepA C v (.slice (if cap = lo.toNat then p else p.map (·.add (lo.toNat * sz))) ((hi.getD len).toNat - lo.toNat) (cap - lo.toNat)):=by
 unfold sliceE at h
 split at h
 ·rename_i id ver sz' off len
  simp only at h
  split at h
  ·rename_i hc
   obtain ⟨h0,h1,h2,rfl⟩:=hc
   simp only [Option.some.injEq] at h
   subst h
   simp only [RepA] at hr
   obtain ⟨A,p,cap,q1,q2,q3,q4,q5,q6⟩:=hr
   refine ⟨p,len,cap,q3,h0,h1,by omega,?_⟩
   simp only [RepA]
   refine ⟨A,(if cap = lo.toNat then p else p.map (·.add (lo.toNat * sz))),cap - lo.toNat,q1,q2,?_,by omega,?_,fun e => ?_⟩
   ·congr 1; omega
   ·intro hcap
    rw [if_neg (by omega)]
    have:=q5 (by omega)
    cases p with
    | none => simp at this
    | some p => rfl
   ·obtain ⟨g1,g2,g3,g4⟩:=q6 e
    refine ⟨g1,by omega,?_,fun hcap => ?_⟩
    ·rw [g3]; congr 1; omega
    ·rw [if_neg (by omega),g4 (by omega)]
     simp only [Option.map_some,Addr.add_mk]
     congr 2
     rw [Nat.add_mul]; omega
  ·cases h
 ·rename_i l
  simp only at h
  split at h
  ·rename_i hc
   obtain ⟨h0,h1,h2,h3⟩:=hc
   simp only [Option.some.injEq] at h
   subst h
   simp only [RepA] at hr
   have:=hr.cell rfl
   simp only [RepD] at this
   obtain ⟨p,cap,q1,q2,q3⟩:=this
   simp only [List.cons.injEq,and_true] at q1
   refine ⟨p,l.length,cap,q1,h0,h1,by omega,?_⟩
   simp only [RepA]
   refine zjb7 rfl ?_
   simp only [RepD]
   refine ⟨_,_,by simp only [List.length_take,List.length_drop]; congr 2; omega,by simp only [List.length_take,List.length_drop]; omega,?_⟩
   rcases q3 with q3 | ⟨b,o,sz',ha,hrow⟩
   ·subst q3; exact .inl (by simp)
   ·by_cases hl : (l.drop lo.toNat).take ((hi.getD ↑l.length) - lo).toNat = []
    ·exact .inl hl
    ·right
     have hne : lo.toNat < l.length:=by
      rcases Nat.lt_or_ge lo.toNat l.length with h | h
      ·exact h
      ·exfalso; apply hl; rw [List.drop_eq_nil_of_le h]; simp
     have hsz : sz' = sz:=by
      cases l with
      | nil => simp at hne
      | cons d r =>
       have w1:=hrow.width d (by simp)
       simp at h3
       omega
     subst hsz
     refine ⟨b,o + lo.toNat * sz',sz',?_,(hrow.drop lo.toNat).take _⟩
     rw [if_neg (by omega),ha]
     simp [Addr.add_mk]
  ·cases h
 ·split at h
  ·rename_i hc
   obtain ⟨rfl,h1⟩:=hc
   simp only [Option.some.injEq] at h
   subst h
   simp only [RepA] at hr
   have h1' : hi.getD ((0 : Nat) : Int) = 0:=by simpa using h1
   refine ⟨none,0,0,hr,by omega,by omega,by omega,?_⟩
   rw [h1']
   simp [RepA]
  ·cases h
 ·cases h
theorem op_slc (hI : Inv B C) (hE : RepE C g a) {t e : TypeId} {x : Operand} {lo hi : Option Operand} {q : TI} {ax : AX} {alo ahi : Option AX} {v : AVal} {l : Int} {hh : Option Int} (ho : o.op = .slice t x lo hi none) (hx : cX x = some ax)
  (hlo : optX lo = some alo) (hhi : optX hi = some ahi) (ht : P.underlying t = some (.slice e)) (hq : tI P e = some q)
  (hl : (match alo with | some l => zmb7 (evX g l) | none => some 0) = some l) (hhv : (match ahi with | some l => (zmb7 (evX g l)).map some | none => some none) = some hh)
  (h : sliceE q.size (evX g ax) l hh = some v) : Does P o a C.w (Owes B C v []):=by
 obtain ⟨p,len,cap,h1,h2,h3,h4,h5⟩:=sliceE_rep h (zia7 hE hx)
 refine zka7 hI ?_ h5
 have hb:=zdf7 (P:=P) true len cap C.w (optX_lo hE hlo hl) (optX_hi hE hhi hhv len) ⟨h2,h3,h4⟩
 simp only [execOp,ho,Instr.sliceAt,Sem.run_bind,run_underlying ht,Result.andThen_ok,Instr.slice,h1,Option.map_none,hb,run_sizeOf hq,Sem.run_pure]
theorem extract_mk (s : List UInt8) (l h : Nat) : (ByteArray.mk s.toArray).extract l h = ByteArray.mk ((s.drop l).take (h - l)).toArray:=by
 apply ByteArray.ext
 simp [ByteArray.data_extract,List.extract_eq_take_drop]
theorem op_slcS (hI : Inv B C) (hE : RepE C g a) {t : TypeId} {x : Operand} {lo hi : Option Operand} {ax : AX} {alo ahi : Option AX} {v : AVal} {l : Int} {hh : Option Int} (ho : o.op = .slice t x lo hi none) (hx : cX x = some ax)
  (hlo : optX lo = some alo) (hhi : optX hi = some ahi) (ht : P.underlying t = some .string)
  (hl : (match alo with | some l => zmb7 (evX g l) | none => some 0) = some l) (hhv : (match ahi with | some l => (zmb7 (evX g l)).map some | none => some none) = some hh)
  (h : sliceS (evX g ax) l hh = some v) : Does P o a C.w (Owes B C v []):=by
 have hr:=zia7 hE hx
 unfold sliceS at h
 split at h
 ·rename_i s hs
  rw [hs] at hr
  simp only at h
  split at h
  ·rename_i hc
   obtain ⟨h0,h1,h2⟩:=hc
   simp only [Option.some.injEq] at h
   subst h
   refine zka7 hI ?_ (rep_mk_str C _)
   have hb:=zdf7 (P:=P) false s.length s.length C.w (optX_lo hE hlo hl) (optX_hi hE hhi hhv s.length) ⟨h0,h1,h2⟩
   have hsz : (ByteArray.mk s.toArray).size = s.length:=by simp [ByteArray.size]
   simp only [execOp,ho,Instr.sliceAt,Sem.run_bind,run_underlying ht,Result.andThen_ok,Instr.slice,rep_str hr,Option.map_none,Option.isSome_none,Bool.false_eq_true,if_false,hsz,hb,Sem.run_pure,extract_mk]
   have e : (hh.getD ↑s.length).toNat - l.toNat = (hh.getD ↑s.length - l).toNat:=by omega
   rw [e]
  ·cases h
 ·cases h
theorem op_slc0 (hI : Inv B C) (hE : RepE C g a) {t e : TypeId} {x lo hi mx : Operand} {ax al ah am : AX} {v : AVal} (ho : o.op = .slice t x (some lo) (some hi) (some mx)) (hx : cX x = some ax) (hl : cX lo = some al) (hh : cX hi = some ah) (hm : cX mx = some am)
  (ht : P.underlying t = some (.slice e)) (hq : (tI P e).isSome = true) (h1 : zmb7 (evX g al) = some 0) (h2 : zmb7 (evX g ah) = some 0) (h3 : zmb7 (evX g am) = some 0) (h : cap0E (evX g ax) = some v) : Does P o a C.w (Owes B C v []):=by
 obtain ⟨p,n,c,e1,e2⟩:=cap0E_rep h (zia7 hE hx)
 obtain ⟨q,hq⟩:=Option.isSome_iff_exists.1 hq
 obtain ⟨k1,k1'⟩:=zza7 h1 (zia7 hE hl)
 obtain ⟨k2,k2'⟩:=zza7 h2 (zia7 hE hh)
 obtain ⟨k3,k3'⟩:=zza7 h3 (zia7 hE hm)
 refine zka7 hI (val:=.slice p 0 0) ?_ e2
 simp [execOp,ho,Instr.sliceAt,Instr.slice,Instr.sliceBounds,Instr.sliceBound,asIntOf,k1',k2',k3',e1,run_underlying ht,run_sizeOf hq]
end
end Go.Am

namespace Go.Am
variable [Glob]
def FlatD (F : Froz) (sz : Nat) : List Dat → List Value → Prop
 | [],cs => cs = []
 | d :: r,cs => ∃ c cs',cs = c ++ cs' ∧ c.length = sz ∧ RepD F d c ∧ FlatD F sz r cs'
theorem FlatD.length {F : Froz} {sz : Nat} : ∀ {ds : List Dat} {cs : List Value},FlatD F sz ds cs → cs.length = ds.length * sz
 | [],cs,h => by simp only [FlatD] at h; simp [h]
 | d :: r,cs,h => by
  simp only [FlatD] at h
  obtain ⟨c,cs',rfl,h1,_,h3⟩:=h
  simp only [List.length_append,h1,h3.length,List.length_cons,Nat.add_mul]; omega
theorem FlatD.mono {F F' : Froz} (hF : F.le F') {sz : Nat} : ∀ {ds : List Dat} {cs : List Value},FlatD F sz ds cs → FlatD F' sz ds cs
 | [],cs,h => h
 | d :: r,cs,h => by
  simp only [FlatD] at h ⊢
  obtain ⟨c,cs',h0,h1,h2,h3⟩:=h
  exact ⟨c,cs',h0,h1,RepD.mono hF _ _ h2,h3.mono hF⟩
theorem FlatD.get {F : Froz} {sz : Nat} : ∀ {ds : List Dat} {cs : List Value},FlatD F sz ds cs → ∀ {i : Nat} {d : Dat},ds[i]? = some d →
  ∃ c,c.length = sz ∧ RepD F d c ∧ ∀ (j : Nat) (v : Value),c[j]? = some v → cs[i * sz + j]? = some v
 | [],cs,h,i,d,hi => by simp at hi
 | x :: r,cs,h,i,d,hi => by
  simp only [FlatD] at h
  obtain ⟨c,cs',rfl,h1,h2,h3⟩:=h
  cases i with
  | zero =>
   simp at hi; subst hi
   refine ⟨c,h1,h2,fun j v hj => ?_⟩
   have:=(List.getElem?_eq_some_iff.1 hj).1
   simpa [List.getElem?_append_left this] using hj
  | succ i =>
   simp at hi
   obtain ⟨c',h4,h5,h6⟩:=h3.get hi
   refine ⟨c',h4,h5,fun j v hj => ?_⟩
   rw [List.getElem?_append_right (by rw [h1,Nat.add_mul]; omega),h1]
   have:=h6 j v hj
   rwa [show (i + 1) * sz + j - sz = i * sz + j by rw [Nat.add_mul]; omega]
theorem FlatD.append {F : Froz} {sz : Nat} : ∀ {ds ds' : List Dat} {cs cs' : List Value},FlatD F sz ds cs → FlatD F sz ds' cs' → FlatD F sz (ds ++ ds') (cs ++ cs')
 | [],ds',cs,cs',h,h' => by simp only [FlatD] at h; subst h; simpa using h'
 | d :: r,ds',cs,cs',h,h' => by
  simp only [FlatD] at h
  obtain ⟨c,cs'',rfl,h1,h2,h3⟩:=h
  simp only [List.cons_append,FlatD]
  exact ⟨c,cs'' ++ cs',by simp,h1,h2,h3.append h'⟩
theorem FlatD.one {F : Froz} {sz : Nat} : ∀ {ds : List Dat} {cs : List Value},FlatD F sz ds cs → ∀ c ∈ cs,c.oneCell' = true
 | [],cs,h => by simp only [FlatD] at h; subst h; simp
 | d :: r,cs,h => by
  simp only [FlatD] at h
  obtain ⟨c,cs',rfl,h1,h2,h3⟩:=h
  intro x hx
  rcases List.mem_append.1 hx with hx | hx
  ·exact h2.one x hx
  ·exact h3.one x hx
theorem FlatD.width {F : Froz} {sz : Nat} : ∀ {ds : List Dat} {cs : List Value},FlatD F sz ds cs → ∀ d ∈ ds,d.width = sz
 | [],cs,h,d,hd => by simp at hd
 | x :: r,cs,h,d,hd => by
  simp only [FlatD] at h
  obtain ⟨c,cs',rfl,h1,h2,h3⟩:=h
  cases hd with
  | head => rw [← h2.length,h1]
  | tail _ hd => exact h3.width d hd
theorem flat_of {F : Froz} {sz : Nat} (M : Nat → Option Value) : ∀ {ds : List Dat} (o : Nat),(∀ (i : Nat) (d : Dat),ds[i]? = some d → ∃ c,c.length = sz ∧ RepD F d c ∧ ∀ (j : Nat) (v : Value),c[j]? = some v → M (o + i * sz + j) = some v) →
  ∃ cs,FlatD F sz ds cs ∧ ∀ (j : Nat) (v : Value),cs[j]? = some v → M (o + j) = some v
 | [],o,h => ⟨[],rfl,by simp⟩
 | d :: r,o,h => by
  obtain ⟨c,h1,h2,h3⟩:=h 0 d rfl
  obtain ⟨cs,h4,h5⟩:=flat_of M (ds:=r) (o + sz) (fun i d hi => by
   obtain ⟨c,h1,h2,h3⟩:=h (i + 1) d (by simpa using hi)
   refine ⟨c,h1,h2,fun j v hj => ?_⟩
   have:=h3 j v hj
   rwa [show o + (i + 1) * sz + j = o + sz + i * sz + j by rw [Nat.add_mul]; omega] at this)
  refine ⟨c ++ cs,⟨c,cs,rfl,h1,h2,h4⟩,fun j v hj => ?_⟩
  rcases Nat.lt_or_ge j c.length with hlt | hge
  ·rw [List.getElem?_append_left hlt] at hj
   have:=h3 j v hj
   simpa using this
  ·rw [List.getElem?_append_right hge] at hj
   have:=h5 _ v hj
   rwa [show o + sz + (j - c.length) = o + j by omega] at this
theorem flat_row {F : Froz} {sz b o : Nat} {ds : List Dat} {cs : List Value} (h : FlatD F sz ds cs) (hc : cellsAt F b o cs) : RowD F ds b o sz:=by
 refine rowD_of fun i d hd => ?_
 obtain ⟨c,h1,h2,h3⟩:=h.get hd
 refine ⟨c,h1,h2,fun j v hj => ?_⟩
 have:=hc _ _ (h3 j v hj)
 rwa [← Nat.add_assoc] at this
theorem zoc7 {F : Froz} {d : Dat} {c : List Value} (h : RepD F d c) : ∀ (n : Nat),FlatD F d.width (List.replicate n d) (List.replicate n c).flatten
 | 0 => rfl
 | n + 1 => by
  simp only [List.replicate_succ,List.flatten_cons,FlatD]
  exact ⟨c,_,rfl,h.length,h,zoc7 h n⟩
section
variable {P : Program} {o : Oper} {a : Act} {B : Base} {C : Ctx} {g : Nat → AVal}
theorem Inv.elem (hI : Inv B C) {id : Id} {sz ver : Nat} {fz : Bool} {es : List Dat} (h : C.ρ id = some (.arr sz ver fz es)) {i : Nat} {d : Dat} (hd : es[i]? = some d) :
  ∃ c,c.length = sz ∧ RepD C.F d c ∧ ∀ (j : Nat) (v : Value),c[j]? = some v → C.w.cell? ⟨(C.μ id).b,(C.μ id).o + i * sz + j,none⟩ = some v:=by
 obtain ⟨h1,h2,h3,h4⟩:=hI.objs id _ h
 cases fz
 ·exact (h3 rfl).2 i d hd
 ·obtain ⟨c,q1,q2,q3⟩:=(h4 rfl).get hd
  exact ⟨c,q1,q2,fun j v hj => hI.Fw _ _ _ (q3 j v hj)⟩
theorem addr_cells {w : World} {b o : Nat} {cs : List Value} (h : ∀ (j : Nat) (v : Value),cs[j]? = some v → w.cell? ⟨b,o + j,none⟩ = some v) :
  ∀ (j : Nat) (v : Value),cs[j]? = some v → w.cell? ((⟨b,o,none⟩ : Addr).add j) = some v:=fun j v hj => by rw [Addr.add_mk]; exact h j v hj
theorem elemsOf_rep (hI : Inv B C) {sz : Nat} {x : AVal} {ds : List Dat} {val : Value} (h : elemsOf C.ρ sz x = some ds) (hr : RepA C x val) :
  ∃ p cap cs,val = .slice p ds.length cap ∧ FlatD C.F sz ds cs ∧ (0 < ds.length → ∃ b o,p = some ⟨b,o,none⟩ ∧ ∀ (j : Nat) (v : Value),cs[j]? = some v → C.w.cell? ⟨b,o + j,none⟩ = some v):=by
 unfold elemsOf at h
 split at h
 ·rename_i l
  split at h
  ·rename_i hall
   simp only [Option.some.injEq] at h
   subst h
   simp only [RepA] at hr
   have:=hr.cell rfl
   simp only [RepD] at this
   obtain ⟨p,cap,h1,h2,h3⟩:=this
   simp only [List.cons.injEq,and_true] at h1
   rcases h3 with h3 | ⟨b,o,sz',ha,hrow⟩
   ·subst h3
    exact ⟨p,cap,[],h1,rfl,by simp⟩
   ·cases l with
    | nil => exact ⟨p,cap,[],h1,rfl,by simp⟩
    | cons d r =>
     have hsz : sz' = sz:=by
      have w1:=hrow.width d (by simp)
      simp at hall
      omega
     subst hsz
     obtain ⟨cs,h4,h5⟩:=flat_of (F:=C.F) (sz:=sz') (fun j => C.F b j) (ds:=d :: r) o (fun i d hd => by
      obtain ⟨c,q1,q2,q3⟩:=hrow.get hd
      exact ⟨c,q1,q2,fun j v hj => q3 j v hj⟩)
     exact ⟨p,cap,cs,h1,h4,fun _ => ⟨b,o,ha,fun j v hj => hI.Fw _ _ _ (h5 j v hj)⟩⟩
  ·cases h
 ·simp only [Option.some.injEq] at h
  subst h
  simp only [RepA] at hr
  exact ⟨none,0,[],hr,rfl,by simp⟩
 ·simp only [Option.some.injEq] at h
  subst h
  simp only [RepA] at hr
  obtain ⟨p,c,h1,h2⟩:=hr
  exact ⟨p,c,[],h1,rfl,by simp⟩
 ·simp only [Option.some.injEq] at h
  subst h
  simp only [RepA] at hr
  obtain ⟨p,h1⟩:=hr
  exact ⟨p,0,[],h1,rfl,by simp⟩
 ·rename_i id ver sz' off len
  split at h
  ·rename_i sz'' ver' fz es hρ
   split at h
   ·rename_i hc
    obtain ⟨rfl,rfl,rfl,hb⟩:=hc
    simp only [Option.some.injEq] at h
    subst h
    simp only [RepA] at hr
    obtain ⟨A,p,cap,q1,q2,q3,q4,q5,q6⟩:=hr
    have hA : A = ⟨ver,sz,es.length,C.μ id⟩:=by simpa [arrAt,hρ] using q1.symm
    subst hA
    obtain ⟨g1,g2,g3,g4⟩:=q6 rfl
    have hlen : ((es.drop off).take len).length = len:=by simp; omega
    obtain ⟨cs,h4,h5⟩:=flat_of (F:=C.F) (sz:=sz) (fun j => C.w.cell? ⟨(C.μ id).b,j,none⟩) (ds:=(es.drop off).take len) ((C.μ id).o + off * sz) (fun i d hd => by
     rw [List.getElem?_take] at hd
     split at hd
     ·rw [List.getElem?_drop] at hd
      obtain ⟨c,r1,r2,r3⟩:=hI.elem hρ hd
      refine ⟨c,r1,r2,fun j v hj => ?_⟩
      have:=r3 j v hj
      rwa [show (C.μ id).o + off * sz + i * sz + j = (C.μ id).o + (off + i) * sz + j by rw [Nat.add_mul]; omega]
     ·cases hd)
    refine ⟨p,cap,cs,by rw [hlen]; exact q3,h4,fun hp => ?_⟩
    rw [hlen] at hp
    exact ⟨_,_,g4 (by omega),fun j v hj => h5 j v hj⟩
   ·cases h
  ·cases h
 ·cases h
theorem zlb7 {w : World} {p : Option Addr} {len cap n sz : Nat} {cs : List Value} (hl : cs.length = n * sz) (h : 0 < cs.length → ∃ b o,p = some ⟨b,o,none⟩ ∧ ∀ (j : Nat) (v : Value),cs[j]? = some v → w.cell? ⟨b,o + j,none⟩ = some v) :
  (Builtin.firstCells sz n (.slice p len cap)).run P w = .ok cs.toArray w:=by
 cases p with
 | none =>
  have : cs = []:=by
   cases cs with
   | nil => rfl
   | cons c r => obtain ⟨b,o,h1,_⟩:=h (by simp); cases h1
  subst this
  exact run_firstCells_none w sz n len cap
 | some p =>
  cases cs with
  | nil => exact run_firstCells_some w sz n p len cap [] hl (by simp)
  | cons c r =>
   obtain ⟨b,o,h1,h2⟩:=h (by simp)
   cases h1
   exact run_firstCells_some w sz n _ len cap _ hl (addr_cells h2)
theorem ztf7 (hI : Inv B C) {sz : Nat} (hsz : 1 ≤ sz) {x : AVal} {ds : List Dat} {val : Value} (h : srcOf C.ρ sz x = some ds) (hr : RepA C x val) :
  ∃ cs,FlatD C.F sz ds cs ∧ (∀ w,(Builtin.lenOf val).run P w = .ok ds.length w) ∧
   ∀ n,n ≤ ds.length → ∀ w,(∀ ad,w.cell? ad = C.w.cell? ad) → (Builtin.firstCells sz n val).run P w = .ok (cs.take (n * sz)).toArray w:=by
 unfold srcOf at h
 split at h
 ·rename_i s
  split at h
  ·rename_i h1
   subst h1
   simp only [Option.some.injEq] at h
   subst h
   rw [rep_str hr]
   have hflat : ∀ (s : List UInt8),FlatD C.F 1 (s.map fun b => Dat.int .u8 b.toNat) (s.map fun b => Value.int .u8 b.toNat):=by
    intro s
    induction s with
    | nil => rfl
    | cons b r ih => exact ⟨[_],_,rfl,rfl,by simp [RepD],ih⟩
   refine ⟨_,hflat s,fun w => by simp only [Builtin.lenOf,List.length_map]; rfl,fun n hn w _ => ?_⟩
   simp only [Builtin.firstCells]
   have e : (((ByteArray.mk s.toArray).extract 0 n).data.map fun b => Value.int .u8 b.toNat) = ((s.map fun b => Value.int .u8 b.toNat).take (n * 1)).toArray:=by
    rw [extract_mk]
    simp [List.map_take]
   rw [e]; rfl
  ·cases h
 ·obtain ⟨p,cap,cs,h1,h2,h3⟩:=elemsOf_rep hI h hr
  subst h1
  refine ⟨cs,h2,fun w => rfl,fun n hn w hw => ?_⟩
  have hl:=h2.length
  refine zlb7 ?_ ?_
  ·rw [List.length_take,hl]
   exact Nat.min_eq_left (Nat.mul_le_mul_right _ hn)
  ·intro hp
   have : 0 < ds.length:=by
    rcases Nat.eq_zero_or_pos ds.length with h | h
    ·rw [h] at hl; simp at hl; simp [hl] at hp
    ·exact h
   obtain ⟨b,o,q1,q2⟩:=h3 this
   refine ⟨b,o,q1,fun j v hj => ?_⟩
   rw [hw]
   rw [List.getElem?_take] at hj
   split at hj
   ·exact q2 j v hj
   ·cases hj
theorem zmd7 {w : World} {b : Nat} (n : Nat) : ∀ (o : Nat),(∀ j,j < n → ∃ v,w.cell? ⟨b,o + j,none⟩ = some v) → ∃ cs : List Value,cs.length = n ∧ ∀ (j : Nat) (v : Value),cs[j]? = some v → w.cell? ⟨b,o + j,none⟩ = some v:=by
 induction n with
 | zero => intro o _; exact ⟨[],rfl,by simp⟩
 | succ n ih =>
  intro o h
  obtain ⟨v,hv⟩:=h 0 (by omega)
  obtain ⟨cs,h1,h2⟩:=ih (o + 1) (fun j hj => by have:=h (j + 1) (by omega); rwa [show o + (j + 1) = o + 1 + j by omega] at this)
  refine ⟨v :: cs,by simp [h1],fun j u hj => ?_⟩
  cases j with
  | zero => simp at hj; subst hj; exact hv
  | succ j => simp at hj; have:=h2 j u hj; rwa [show o + (j + 1) = o + 1 + j by omega]
theorem loadE_rep (hI : Inv B C) {n : Nat} {agg : Bool} {x v : AVal} {val : Value} (hn : 1 ≤ n) (h : loadE C.ρ n agg x = some v) (hr : RepA C x val) :
  ∃ b o,val = .pointer (some ⟨b,o,none⟩) ∧
   (agg = true → ∃ cs : List Value,cs.length = n ∧ (∀ (j : Nat) (u : Value),cs[j]? = some u → C.w.cell? ⟨b,o + j,none⟩ = some u) ∧ RepA C v (.agg cs.toArray)) ∧
   (agg = false → ∃ u,C.w.cell? ⟨b,o,none⟩ = some u ∧ RepA C v u):=by
 unfold loadE at h
 split at h
 ·rename_i id off
  split at h
  ·rename_i cells hρ
   split at h
   ·rename_i hb
    simp only [RepA] at hr
    obtain ⟨L,h1,h2⟩:=hr
    have hL : L = C.μ id:=by simpa [boxAt,hρ] using h1.symm
    subst hL
    obtain ⟨o1,o2,o3,o4⟩:=hI.objs id _ hρ
    refine ⟨_,_,h2,fun e => ?_,fun e => ?_⟩
    ·subst e
     simp only [if_true,Option.some.injEq] at h
     subst h
     obtain ⟨cs,h3,h4⟩:=zmd7 (w:=C.w) (b:=(C.μ id).b) n ((C.μ id).o + off) (fun j hj => by
      obtain ⟨v,hv,_⟩:=o4 (off + j) cells[off + j] (List.getElem?_eq_getElem (by omega))
      exact ⟨v,by rwa [Nat.add_assoc]⟩)
     have hlen : ((cells.drop off).take n).length = n:=by simp; omega
     have hrep : RepL C ((cells.drop off).take n) cs:=by
      refine repL_of (by rw [h3,hlen]) fun i x c hi hc => ?_
      rw [List.getElem?_take] at hi
      split at hi
      ·rw [List.getElem?_drop] at hi
       obtain ⟨v,hv,hx⟩:=o4 _ _ hi
       have:=h4 i c hc
       rw [Nat.add_assoc,hv] at this
       cases this
       exact hx
      ·cases hi
     have hleaf : ((cells.drop off).take n).all AVal.leaf = true:=by
      rw [List.all_eq_true] at o2 ⊢
      exact fun x hx => o2 x (List.mem_of_mem_drop (List.mem_of_mem_take hx))
     refine ⟨cs,h3,h4,?_⟩
     simp only [RepA]
     refine ⟨_,rfl,hrep,hleaf,fun c hc => ?_⟩
     have hc' : c ∈ cs:=by simpa using hc
     obtain ⟨i,hi⟩:=List.getElem?_of_mem hc'
     obtain ⟨x,hx⟩ : ∃ x,((cells.drop off).take n)[i]? = some x:=by
      have:=(List.getElem?_eq_some_iff.1 hi).1
      exact ⟨_,List.getElem?_eq_getElem (by rw [hlen]; omega)⟩
     obtain ⟨c',e1,e2⟩:=hrep.get hx
     rw [hi] at e1
     cases e1
     rw [List.all_eq_true] at hleaf
     exact (e2.leaf (hleaf x (List.mem_of_getElem? hx))).1
    ·subst e
     simp only [Bool.false_eq_true,if_false] at h
     obtain ⟨u,hu,hx⟩:=o4 _ _ h
     exact ⟨u,hu,hx⟩
   ·cases h
  ·cases h
 ·rename_i id ver i off
  split at h
  ·rename_i sz ver' fz es hρ
   split at h
   ·rename_i hv
    subst hv
    cases e : es[i]? with
    | none => simp [e] at h
    | some d =>
     simp only [e] at h
     split at h
     ·rename_i hb
      simp only [RepA] at hr
      obtain ⟨A,p,h1,h2,h3,h4⟩:=hr
      have hA : A = ⟨ver,sz,es.length,C.μ id⟩:=by simpa [arrAt,hρ] using h1.symm
      subst hA
      obtain ⟨g1,g2⟩:=h4 rfl
      subst g2
      obtain ⟨c,c1,c2,c3⟩:=hI.elem hρ e
      have hagg:=c2.cellsAgg
      have hlen:=hagg.length
      refine ⟨_,_,h3,fun e' => ?_,fun e' => ?_⟩
      ·subst e'
       simp only [if_true,Option.some.injEq] at h
       subst h
       refine ⟨(c.drop off).take n,by simp; omega,fun j u hj => ?_,?_⟩
       ·rw [List.getElem?_take] at hj
        split at hj
        ·rw [List.getElem?_drop] at hj
         have:=c3 _ _ hj
         rwa [← Nat.add_assoc] at this
        ·cases hj
       ·simp only [RepA]
        exact repV_agg (by simpa using (hagg.drop off).take n)
      ·subst e'
       simp only [Bool.false_eq_true,if_false] at h
       cases e2 : d.cells[off]? with
       | none => rw [e2] at h; cases h
       | some dd =>
        rw [e2] at h
        simp only [Option.map_some,Option.some.injEq] at h
        subst h
        obtain ⟨u,u1,u2,u3⟩:=hagg.get e2
        exact ⟨u,c3 _ _ u1,zjb7 u2 u3⟩
     ·cases h
   ·cases h
  ·rename_i sz ver' es hρ
   split at h
   ·rename_i hv
    subst hv
    cases e : es[i]? with
    | none => simp [e] at h
    | some row =>
     simp only [e] at h
     split at h
     ·rename_i hb
      simp only [RepA] at hr
      obtain ⟨A,p,h1,h2,h3,h4⟩:=hr
      have hA : A = ⟨ver,sz,es.length,C.μ id⟩:=by simpa [arrAt,hρ] using h1.symm
      subst hA
      obtain ⟨g1,g2⟩:=h4 rfl
      subst g2
      obtain ⟨o1,o2,o3,o4,o5⟩:=hI.objs id _ hρ
      have o5:=o5 i row e
      have o3:=(o3 row (List.mem_of_getElem? e)).2
      refine ⟨_,_,h3,fun e' => ?_,fun e' => ?_⟩
      ·subst e'
       simp only [if_true,Option.some.injEq] at h
       subst h
       obtain ⟨cs,h3,h4⟩:=zmd7 (w:=C.w) (b:=(C.μ id).b) n ((C.μ id).o + i * sz + off) (fun j hj => by
        obtain ⟨v,hv,_⟩:=o5 (off + j) row[off + j] (List.getElem?_eq_getElem (by omega))
        exact ⟨v,by rwa [Nat.add_assoc]⟩)
       have hlen : ((row.drop off).take n).length = n:=by simp; omega
       have hrep : RepL C ((row.drop off).take n) cs:=by
        refine repL_of (by rw [h3,hlen]) fun i x c hi hc => ?_
        rw [List.getElem?_take] at hi
        split at hi
        ·rw [List.getElem?_drop] at hi
         obtain ⟨v,hv,hx⟩:=o5 _ _ hi
         have:=h4 i c hc
         rw [Nat.add_assoc,hv] at this
         cases this
         exact hx
        ·cases hi
       have hleaf : ((row.drop off).take n).all AVal.leaf = true:=by
        rw [List.all_eq_true] at o3 ⊢
        exact fun x hx => o3 x (List.mem_of_mem_drop (List.mem_of_mem_take hx))
       refine ⟨cs,h3,h4,?_⟩
       simp only [RepA]
       refine ⟨_,rfl,hrep,hleaf,fun c hc => ?_⟩
       have hc' : c ∈ cs:=by simpa using hc
       obtain ⟨i,hi⟩:=List.getElem?_of_mem hc'
       obtain ⟨x,hx⟩ : ∃ x,((row.drop off).take n)[i]? = some x:=by
        have:=(List.getElem?_eq_some_iff.1 hi).1
        exact ⟨_,List.getElem?_eq_getElem (by rw [hlen]; omega)⟩
       obtain ⟨c',e1,e2⟩:=hrep.get hx
       rw [hi] at e1
       cases e1
       rw [List.all_eq_true] at hleaf
       exact (e2.leaf (hleaf x (List.mem_of_getElem? hx))).1
      ·subst e'
       simp only [Bool.false_eq_true,if_false] at h
       obtain ⟨u,hu,hx⟩:=o5 _ _ h
       exact ⟨u,hu,hx⟩
     ·cases h
   ·cases h
  ·cases h
 ·rename_i l
  split at h
  ·rename_i hb
   simp only [RepA] at hr
   obtain ⟨b,o,cs,h1,h2,h3⟩:=hr
   refine ⟨b,o,h1,fun e => ?_,fun e => ?_⟩
   ·subst e
    simp only [if_true,Option.some.injEq] at h
    subst h
    have:=h2.length
    refine ⟨cs.take n,by simp; omega,fun j u hj => ?_,?_⟩
    ·rw [List.getElem?_take] at hj
     split at hj
     ·exact hI.Fw _ _ _ (h3 _ _ hj)
     ·cases hj
    ·simp only [RepA]
     exact repV_agg (by simpa using h2.take n)
   ·subst e
    simp only [Bool.false_eq_true,if_false] at h
    cases e2 : l[0]? with
    | none => simp [e2] at h
    | some dd =>
     simp [e2] at h
     subst h
     obtain ⟨u,u1,u2,u3⟩:=h2.get e2
     exact ⟨u,by simpa using hI.Fw _ _ _ (h3 _ _ u1),zjb7 u2 u3⟩
  ·cases h
 ·cases h
theorem op_ld (hI : Inv B C) (hE : RepE C g a) {t : TypeId} {x : Operand} {q : TI} {ax : AX} {v : AVal} (ho : o.op = .load t x) (hx : cX x = some ax) (hq : tI P t = some q) (hq1 : 1 ≤ q.size)
  (h : loadE C.ρ q.size q.agg (evX g ax) = some v) : Does P o a C.w (Owes B C v []):=by
 obtain ⟨b,of,h1,h2,h3⟩:=loadE_rep hI hq1 h (zia7 hE hx)
 cases e : q.agg
 ·obtain ⟨u,hu,hr⟩:=h3 e
  refine zka7 hI ?_ hr
  simp [execOp,ho,Instr.loadAt,h1,Instr.sureAddr,loadVar,run_isAgg hq,e,hu]
 ·obtain ⟨cs,c1,c2,hr⟩:=h2 e
  refine zka7 hI ?_ hr
  have:=run_loadCells_list (P:=P) C.w ⟨b,of,none⟩ cs (addr_cells c2)
  rw [c1] at this
  simp [execOp,ho,Instr.loadAt,h1,Instr.sureAddr,loadVar,run_isAgg hq,e,run_sizeOf hq,this]
end
end Go.Am

namespace Go.Am
variable [Glob]
theorem fold_set (off : Nat) : ∀ (c : List Value) (k : Nat) (cells : Array Value),off + k + c.length ≤ cells.size →
  ((c.zipIdx k).foldl (fun cs p => cs.setIfInBounds (off + p.2) p.1) cells).toList = cells.toList.take (off + k) ++ c ++ cells.toList.drop (off + k + c.length)
 | [],k,cells,h => by simp
 | x :: r,k,cells,h => by
  simp only [List.zipIdx_cons,List.foldl_cons]
  simp only [List.length_cons] at h
  rw [fold_set off r (k + 1) _ (by simp; omega)]
  have hlt : off + k < cells.toList.length:=by simp; omega
  simp only [Array.toList_setIfInBounds]
  have e1 : (cells.toList.set (off + k) x).take (off + (k + 1)) = cells.toList.take (off + k) ++ [x]:=by
   rw [show off + (k + 1) = off + k + 1 by omega,List.take_add_one,List.take_set_of_le (Nat.le_refl _),List.getElem?_set_self hlt]
   rfl
  have e2 : (cells.toList.set (off + k) x).drop (off + (k + 1) + r.length) = cells.toList.drop (off + k + (r.length + 1)):=by
   rw [List.drop_set_of_lt (by omega)]
   congr 1; omega
  rw [e1,e2]
  simp
theorem fill_step (place : Nat → Option (Nat × Nat)) (cells : Array Value) (i : Nat) (v : Value) (rest : List (Nat × Value)) {off size : Nat} (hp : place i = some (off,size))
  (hs : v.cells.size = size) (hf : off + size ≤ cells.size) :
  ∃ cells',Instr.fill place cells ((i,v) :: rest) = Instr.fill place cells' rest ∧ cells'.toList = splice cells.toList off v.cells.toList:=by
 refine ⟨v.cells.zipIdx.foldl (fun cs (p : Value × Nat) => cs.setIfInBounds (off + p.2) p.1) cells,?_,?_⟩
 ·simp only [Instr.fill,hp,hs]
  rw [if_neg]
  simp only [ne_eq,not_true_eq_false,decide_false,Bool.false_or,decide_eq_true_eq]
  omega
 ·have:=fold_set off v.cells.toList 0 cells (by simp; omega)
  rw [← Array.foldl_toList,Array.toList_zipIdx,this]
  simp [splice]
theorem length_splice {α : Type} (l : List α) (off : Nat) (v : List α) (h : off + v.length ≤ l.length) : (splice l off v).length = l.length:=by
 simp only [splice,List.length_append,List.length_take,List.length_drop]; omega
theorem fill_row (size : Nat) : ∀ (vs : List Value) (k : Nat) (cells : Array Value),(∀ v ∈ vs,v.cells.size = size) → cells.size = (k + vs.length) * size →
  ∃ out,Instr.fill (fun i => some (i * size,size)) cells ((List.range' k vs.length).zip vs) = some out ∧ out.toList = cells.toList.take (k * size) ++ (vs.map (·.cells.toList)).flatten
 | [],k,cells,_,hs => by
  refine ⟨cells,by simp [Instr.fill],?_⟩
  simp only [List.length_nil,Nat.add_zero] at hs
  rw [List.take_of_length_le (by simp; omega)]
  simp
 | v :: r,k,cells,h1,hs => by
  simp only [List.length_cons,List.range'_succ,List.zip_cons_cons]
  have hv:=h1 v (by simp)
  have hmul : (k + (r.length + 1)) * size = k * size + size + r.length * size:=by simp only [Nat.add_mul]; omega
  obtain ⟨cells',e1,e2⟩:=fill_step (fun i => some (i * size,size)) cells k v ((List.range' (k + 1) r.length).zip r) rfl hv (by rw [hs,List.length_cons,hmul]; omega)
  rw [e1]
  have hsz : cells'.size = cells.size:=by
   have:=congrArg List.length e2
   rw [length_splice _ _ _ (by simp; rw [hs,List.length_cons,hmul]; omega)] at this
   simpa using this
  obtain ⟨out,e3,e4⟩:=fill_row size r (k + 1) cells' (fun v hv => h1 v (by simp [hv])) (by rw [hsz,hs,List.length_cons]; congr 1; omega)
  refine ⟨out,e3,?_⟩
  rw [e4,e2]
  have hl : (cells.toList.take (k * size) ++ v.cells.toList).length = (k + 1) * size:=by
   simp only [List.length_append,List.length_take,Array.length_toList,hv]
   rw [hs,List.length_cons,hmul,Nat.add_mul]; omega
  simp only [splice]
  rw [List.take_append_of_le_length (by rw [hl]; exact Nat.le_refl _),← hl,List.take_length]
  simp
theorem zrf7 (z : Array Value) : ∀ (n : Nat),((Array.range (n * z.size)).map (fun i => z[i % z.size]!)).toList = (List.replicate n z.toList).flatten
 | 0 => by simp
 | n + 1 => by
  have ih:=zrf7 z n
  simp only [Array.toList_map,Array.toList_range] at ih ⊢
  have e : (n + 1) * z.size = n * z.size + z.size:=by rw [Nat.add_mul]; omega
  rw [e,List.range_add,List.map_append,ih]
  have e2 : (List.range z.size).map ((fun i => z[i % z.size]!) ∘ fun x => n * z.size + x) = z.toList:=by
   apply List.ext_getElem
   ·simp
   ·intro i h1 h2
    simp only [List.length_map,List.length_range] at h1
    have : (n * z.size + i) % z.size = i:=by rw [Nat.mul_comm,Nat.mul_add_mod]; exact Nat.mod_eq_of_lt h1
    simp [this,h1]
  rw [List.map_map,e2]
  have : ∀ (n : Nat),(List.replicate (n + 1) z.toList).flatten = (List.replicate n z.toList).flatten ++ z.toList:=by
   intro n
   rw [List.replicate_succ']
   simp
  rw [this]
theorem tI_zero {P : Program} {t : TypeId} {q : TI} {z : List AVal} (h : tI P t = some q) (hz : q.zero = some z) :
  ∃ v : Value,(∀ w,(zeroValue t).run P w = .ok v w) ∧ zoa7 (v.cells.toList.map cst) = some z:=by
 obtain ⟨i,d,h1,_,_,_,_,h6⟩:=tI_info h
 rw [hz] at h6
 cases e : i.zero with
 | none => simp [e] at h6
 | some v =>
  rw [e] at h6
  refine ⟨v,fun w => by simp [zeroValue,run_typeInfo h1,e],h6.symm⟩
theorem tI_zero_some {P : Program} {t : TypeId} {q : TI} (h : tI P t = some q) (hz : q.zero.isSome = true) : ∃ v : Value,∀ w,(zeroValue t).run P w = .ok v w:=by
 obtain ⟨z,hz'⟩:=Option.isSome_iff_exists.1 hz
 obtain ⟨v,hv,_⟩:=tI_zero h hz'
 exact ⟨v,hv⟩
theorem zbd7 {F : Froz} : ∀ {zero : List AVal} {ds : List Dat} {fs : List Id} {vs : List Value},zwa7 (fun _ => none) zero = some (ds,fs) → zoa7 (vs.map cst) = some zero → AggD F ds vs
 | [],ds,fs,vs,h,hv => by
  simp [zwa7] at h
  cases vs with
  | nil => rw [h.1]; rfl
  | cons v r =>
   exfalso
   have:=zhc7 hv
   simp at this
 | z :: zero,ds,fs,vs,h,hv => by
  have hsp:=zhc7 hv
  cases vs with
  | nil => simp at hsp
  | cons v r =>
   simp only [List.map_cons,List.cons.injEq] at hsp
   have hr : zoa7 (r.map cst) = some zero:=by
    rw [hsp.2]
    clear h hv hsp
    induction zero with
    | nil => rfl
    | cons a b ih => simp [zoa7,ih]
   simp only [zwa7] at h
   cases e1 : zpb7 (fun _ => none) z with
   | none => simp [e1] at h
   | some p =>
    cases e2 : zwa7 (fun _ => none) zero with
    | none => simp [e1,e2] at h
    | some q =>
     simp only [e1,e2] at h
     split at h
     ·cases h
     ·rename_i hagg
      simp only [Option.some.injEq,Prod.mk.injEq] at h
      rw [← h.1]
      refine ⟨v,r,rfl,by simpa using hagg,?_,zbd7 e2 hr⟩
      have hz:=hsp.1
      unfold cst at hz
      split at hz <;> simp at hz <;> subst hz <;> simp [zpb7] at e1 <;> rw [← e1] <;> simp [RepD]
theorem zeroDat_rep {F : Froz} {zero : List AVal} {z : Dat} {vs : List Value} (h : zrc7 zero = some z) (hv : zoa7 (vs.map cst) = some zero) : RepD F z vs:=by
 unfold zrc7 at h
 split at h
 ·rename_i d
  split at h
  ·cases h
  ·rename_i hd
   simp only [Option.some.injEq] at h
   subst h
   have hd' : d.isAgg = false:=by simpa using hd
   have:=zbd7 (F:=F) (zero:=[.dat d]) (ds:=[d]) (fs:=[]) (by simp [zwa7,zpb7,hd']) hv
   simp only [AggD] at this
   obtain ⟨c,cs',rfl,_,h3,h4⟩:=this
   subst h4
   exact h3
 ·simp only [Option.some.injEq] at h
  subst h
  have:=zbd7 (F:=F) (zero:=[.nils]) (ds:=[.sl []]) (fs:=[]) (by simp [zwa7,zpb7]) hv
  simp only [AggD] at this
  obtain ⟨c,cs',rfl,_,h3,h4⟩:=this
  subst h4
  exact h3
 ·split at h
  ·rename_i ds fs hds
   simp only [Option.some.injEq] at h
   subst h
   simp only [RepD]
   exact zbd7 hds hv
  ·cases h
section
variable {P : Program} {o : Oper} {a : Act} {B : Base} {C : Ctx} {g : Nat → AVal}
theorem Inv.freeze1 (hI : Inv B C) {id : Id} {sz ver : Nat} {fz : Bool} {es : List Dat} (h : C.ρ id = some (.arr sz ver fz es)) :
  ∃ C' : Ctx,C'.w = C.w ∧ C'.μ = C.μ ∧ C'.ρ = updL C.ρ [(id,.arr sz ver true es)] ∧ Inv B C' ∧ Grow C C' ∧ RowD C'.F es (C.μ id).b (C.μ id).o sz:=by
 have hρ' : ∀ (F : Froz),updL C.ρ [(id,.arr sz ver true es)] = fun j => if id = j then some (.arr sz ver true es) else C.ρ j:=fun _ => rfl
 cases fz with
 | true =>
  have hsame : updL C.ρ [(id,.arr sz ver true es)] = C.ρ:=by
   funext j
   simp only [updL]
   split
   ·rename_i e; subst e; exact h.symm
   ·rfl
  exact ⟨C,rfl,rfl,hsame.symm,hI,Grow.refl C,(hI.objs id _ h).2.2.2 rfl⟩
 | false =>
  obtain ⟨o1,⟨cap,o2,o2'⟩,o3,o4⟩:=hI.objs id _ h
  obtain ⟨hown,hel⟩:=o3 rfl
  let T : Cells:=fun b o => b = (C.μ id).b ∧ ∃ j,j < es.length * sz ∧ o = (C.μ id).o + j
  let F' : Froz:=fun b o => if b = (C.μ id).b ∧ (C.μ id).o ≤ o ∧ o < (C.μ id).o + es.length * sz then C.w.cell? ⟨b,o,none⟩ else C.F b o
  let C' : Ctx:={ w:=C.w,F:=F',μ:=C.μ,ρ:=updL C.ρ [(id,.arr sz ver true es)] }
  have hle : es.length * sz ≤ (C.μ id).n:=by rw [o2]; exact Nat.mul_le_mul_right _ o2'
  have hF : C.F.le F':=by
   intro b o v hv
   simp only [F']
   split
   ·rename_i hc
    obtain ⟨rfl,q1,q2⟩:=hc
    have:=(hown (o - (C.μ id).o) (by omega)).2.2
    rw [show (C.μ id).o + (o - (C.μ id).o) = o by omega] at this
    rw [this] at hv; cases hv
   ·exact hv
  have hrow : RowD F' es (C.μ id).b (C.μ id).o sz:=by
   refine rowD_of fun i d hd => ?_
   obtain ⟨c,c1,c2,c3⟩:=hel i d hd
   refine ⟨c,c1,RepD.mono hF _ _ c2,fun j v hj => ?_⟩
   have hi:=(List.getElem?_eq_some_iff.1 hd).1
   have hj':=(List.getElem?_eq_some_iff.1 hj).1
   have hlt : i * sz + j < es.length * sz:=by
    calc i * sz + j < i * sz + sz:=by omega
     _ = (i + 1) * sz:=by rw [Nat.add_mul]; omega
     _ ≤ es.length * sz:=Nat.mul_le_mul_right _ (by omega)
   have hF' : F' (C.μ id).b ((C.μ id).o + i * sz + j) = C.w.cell? ⟨(C.μ id).b,(C.μ id).o + i * sz + j,none⟩:=if_pos ⟨rfl,by omega,by omega⟩
   rw [hF']
   exact c3 j v hj
  have hg : Grow C C':=by
   refine ⟨hF,fun i L _ hb => ?_,fun i A _ ha => ?_,fun i b _ hb => ?_⟩
   ·by_cases e : id = i
    ·subst e
     simp only [boxAt,h] at hb
     cases hb
    ·simpa [boxAt,C',updL,e] using hb
   ·simp only [arrAt,C',updL] at ha ⊢
    by_cases e : id = i
    ·subst e
     rw [h] at ha
     simp only [Option.some.injEq] at ha
     subst ha
     exact ⟨⟨ver,sz,es.length,C.μ id⟩,by simp,Nat.le_refl _,fun _ => ⟨rfl,rfl,Nat.le_refl _⟩⟩
    ·exact ⟨A,by simpa [e] using ha,Nat.le_refl _,fun _ => ⟨rfl,rfl,Nat.le_refl _⟩⟩
   ·by_cases e : id = i
    ·subst e
     simp only [blkAt,h] at hb
     cases hb
    ·simpa [blkAt,C',updL,e] using hb
  refine ⟨C',rfl,rfl,rfl,?_,hg,hrow⟩
  refine hI.step (C':=C') id T ?_ (Kept.refl _ _) ?_ ?_ ?_ hg ?_ ?_ ?_
  ·rintro b o ⟨rfl,j,hj,rfl⟩
   exact ⟨_,h,rfl,j,by omega,rfl,rfl⟩
  ·intro b o v hv
   simp only [C',F'] at hv
   split at hv
   ·rename_i hc
    exact .inr (.inr ⟨hc.1,o - (C.μ id).o,by omega,by omega⟩)
   ·exact .inl hv
  ·intro b o v hv hn
   simp only [C',F'] at hv
   split at hv
   ·exact hv
   ·rw [hn] at hv; cases hv
  ·intro i hi
   refine ⟨?_,rfl⟩
   simp only [C',updL]
   rw [if_neg (fun e => hi e.symm)]
  ·intro o' ho'
   simp only [C',updL,if_true,Option.some.injEq] at ho'
   subst ho'
   exact ⟨o1,⟨cap,o2,o2'⟩,fun e => by simp at e,fun _ => hrow⟩
  ·intro o' ho' hw
   simp only [C',updL,if_true,Option.some.injEq] at ho'
   subst ho'
   simp [Obj.own] at hw
  ·intro x hx
   simp [C',updL] at hx
theorem zte7 (ρ : Look) (l l' : List (Id × Obj)) : updL ρ (l ++ l') = updL (updL ρ l) l':=by
 induction l generalizing ρ with
 | nil => rfl
 | cons p r ih => simp [updL,ih]
theorem frz_upd {ρ : Look} {id : Id} {sz ver : Nat} {fz : Bool} {es : List Dat} (h : ρ id = some (.arr sz ver fz es)) : ∀ (fs : List Id),frz (updL ρ [(id,.arr sz ver true es)]) fs = frz ρ fs
 | [] => rfl
 | i :: r => by
  simp only [frz,frz_upd h r]
  simp only [updL]
  by_cases e : id = i
  ·subst e; simp [h]
  ·simp [e]
theorem Inv.freeze (hI : Inv B C) : ∀ (fs : List Id),∃ C' : Ctx,C'.w = C.w ∧ C'.μ = C.μ ∧ C'.ρ = updL C.ρ (frz C.ρ fs) ∧ Inv B C' ∧ Grow C C' ∧
  ∀ id ∈ fs,∀ sz ver fz es,C.ρ id = some (.arr sz ver fz es) → RowD C'.F es (C.μ id).b (C.μ id).o sz:=by
 intro fs
 induction fs generalizing C with
 | nil => exact ⟨C,rfl,rfl,rfl,hI,Grow.refl C,by simp⟩
 | cons id r ih =>
  have other : (∀ sz ver fz es,C.ρ id ≠ some (.arr sz ver fz es)) → ∃ C' : Ctx,C'.w = C.w ∧ C'.μ = C.μ ∧ C'.ρ = updL C.ρ (frz C.ρ (id :: r)) ∧ Inv B C' ∧ Grow C C' ∧
    ∀ i ∈ id :: r,∀ sz ver fz es,C.ρ i = some (.arr sz ver fz es) → RowD C'.F es (C.μ i).b (C.μ i).o sz:=by
   intro hno
   obtain ⟨C',h1,h2,h3,h4,h5,h6⟩:=ih hI
   refine ⟨C',h1,h2,?_,h4,h5,fun i hi sz ver fz es he => ?_⟩
   ·rw [h3]
    simp only [frz]
   ·cases hi with
    | head => exact absurd he (hno _ _ _ _)
    | tail _ hi => exact h6 i hi sz ver fz es he
  cases e : C.ρ id with
  | none => exact other (by simp [e])
  | some ob =>
   cases ob with
   | box cs => exact other (by simp [e])
   | rarr v es => exact other (by simp [e])
   | blk x => exact other (by simp [e])
   | arr sz ver fz es =>
    obtain ⟨C1,a1,a2,a3,a4,a5,a6⟩:=hI.freeze1 e
    obtain ⟨C2,b1,b2,b3,b4,b5,b6⟩:=ih a4
    refine ⟨C2,b1.trans a1,b2.trans a2,?_,b4,a5.trans b5,fun i hi sz' ver' fz' es' he => ?_⟩
    ·rw [b3,a3,frz_upd e]
     simp only [frz,e]
     rw [show (id,Obj.arr sz ver true es) :: frz C.ρ r = [(id,Obj.arr sz ver true es)] ++ frz C.ρ r from rfl,zte7]
    ·by_cases ei : i = id
     ·subst ei
      rw [e] at he
      cases he
      exact RowD.mono b5.F _ _ _ _ a6
     ·cases hi with
      | head => exact absurd rfl ei
      | tail _ hi =>
       have : C1.ρ i = some (.arr sz' ver' fz' es'):=by
        rw [a3]; simp only [updL]; rw [if_neg (fun e => ei e.symm)]; exact he
       have:=b6 i hi sz' ver' fz' es' this
       rwa [a2] at this
theorem zed7 {C' : Ctx} (hg : C.F.le C'.F) {x : AVal} {d : Dat} {fs : List Id} {val : Value}
  (hfz : ∀ id ∈ fs,∀ sz ver fz es,C.ρ id = some (.arr sz ver fz es) → RowD C'.F es (C.μ id).b (C.μ id).o sz) (h : zpb7 C.ρ x = some (d,fs)) (hr : RepA C x val) : RepV C'.F d val:=by
 unfold zpb7 at h
 split at h
 ·simp only [Option.some.injEq,Prod.mk.injEq] at h
  rw [← h.1]
  simp only [RepA] at hr
  exact hr.mono hg
 ·simp only [Option.some.injEq,Prod.mk.injEq] at h
  rw [← h.1]
  simp only [RepA] at hr
  subst hr
  exact zjb7 rfl (by simp [RepD])
 ·simp only [Option.some.injEq,Prod.mk.injEq] at h
  rw [← h.1]
  simp only [RepA] at hr
  obtain ⟨p,c,h1,h2⟩:=hr
  subst h1
  exact zjb7 rfl (by simp [RepD])
 ·simp only [Option.some.injEq,Prod.mk.injEq] at h
  rw [← h.1]
  simp only [RepA] at hr
  obtain ⟨p,h1⟩:=hr
  subst h1
  exact zjb7 rfl (by simp [RepD])
 ·simp only [Option.some.injEq,Prod.mk.injEq] at h
  rw [← h.1]
  simp only [RepA] at hr
  exact hr.2.mono hg
 ·rename_i id ver sz off len
  split at h
  ·rename_i sz' ver' fz es hρ
   split at h
   ·rename_i hc
    obtain ⟨rfl,rfl,hb⟩:=hc
    simp only [Option.some.injEq,Prod.mk.injEq] at h
    obtain ⟨rfl,rfl⟩:=h
    have hrow:=hfz id (by simp) _ _ _ _ hρ
    simp only [RepA] at hr
    obtain ⟨A,p,cap,q1,q2,q3,q4,q5,q6⟩:=hr
    have hA : A = ⟨ver,sz,es.length,C.μ id⟩:=by simpa [arrAt,hρ] using q1.symm
    subst hA
    obtain ⟨g1,g2,g3,g4⟩:=q6 rfl
    subst q3
    refine zjb7 rfl ?_
    simp only [RepD]
    have hlen : ((es.drop off).take len).length = len:=by simp; omega
    refine ⟨p,cap,by rw [hlen],by omega,?_⟩
    by_cases hl : (es.drop off).take len = []
    ·exact .inl hl
    ·right
     have : 0 < len:=by
      rcases Nat.eq_zero_or_pos len with h | h
      ·subst h; simp at hl
      ·exact h
     exact ⟨_,_,sz,g4 (by omega),(hrow.drop off).take len⟩
   ·cases h
  ·cases h
 ·cases h
theorem decLeaves_rep {C' : Ctx} (hg : C.F.le C'.F) : ∀ {l : List AVal} {ds : List Dat} {fs : List Id} {vs : List Value},
  (∀ id ∈ fs,∀ sz ver fz es,C.ρ id = some (.arr sz ver fz es) → RowD C'.F es (C.μ id).b (C.μ id).o sz) → zwa7 C.ρ l = some (ds,fs) → RepL C l vs → AggD C'.F ds vs
 | [],ds,fs,vs,hfz,h,hr => by
  simp [zwa7] at h
  rw [h.1]
  simpa [RepL,AggD] using hr
 | x :: l,ds,fs,vs,hfz,h,hr => by
  simp only [zwa7] at h
  cases e1 : zpb7 C.ρ x with
  | none => simp [e1] at h
  | some p =>
   cases e2 : zwa7 C.ρ l with
   | none => simp [e1,e2] at h
   | some q =>
    simp only [e1,e2] at h
    split at h
    ·cases h
    ·rename_i hagg
     simp only [Option.some.injEq,Prod.mk.injEq] at h
     obtain ⟨rfl,rfl⟩:=h
     simp only [RepL] at hr
     obtain ⟨c,cs,rfl,h2,h3⟩:=hr
     have hd : p.1.isAgg = false:=by simpa using hagg
     refine ⟨c,cs,rfl,hd,?_,decLeaves_rep hg (fun id hid => hfz id (by simp [hid])) e2 h3⟩
     exact (zed7 hg (fun id hid => hfz id (by simp [hid])) e1 h2).cell hd
theorem dec_rep {C' : Ctx} (hg : C.F.le C'.F) {x : AVal} {d : Dat} {fs : List Id} {val : Value}
  (hfz : ∀ id ∈ fs,∀ sz ver fz es,C.ρ id = some (.arr sz ver fz es) → RowD C'.F es (C.μ id).b (C.μ id).o sz) (h : dec C.ρ x = some (d,fs)) (hr : RepA C x val) : RepV C'.F d val:=by
 unfold dec at h
 split at h
 ·rename_i l
  split at h
  ·rename_i ds fs' hds
   simp only [Option.some.injEq,Prod.mk.injEq] at h
   obtain ⟨rfl,rfl⟩:=h
   simp only [RepA] at hr
   obtain ⟨cs,rfl,h1,h2,h3⟩:=hr
   exact repV_agg (decLeaves_rep hg hfz hds h1)
  ·cases h
 ·exact zed7 hg hfz h hr
theorem decAll_rep {C' : Ctx} (hg : C.F.le C'.F) {sz : Nat} : ∀ {l : List AVal} {ds : List Dat} {fs : List Id} {vs : List Value},
  (∀ id ∈ fs,∀ sz ver fz es,C.ρ id = some (.arr sz ver fz es) → RowD C'.F es (C.μ id).b (C.μ id).o sz) → znf7 C.ρ l = some (ds,fs) → RepL C l vs → ds.all (fun d => d.width == sz) = true →
  FlatD C'.F sz ds (vs.map (·.cells.toList)).flatten ∧ (∀ v ∈ vs,v.cells.size = sz) ∧ ds.length = vs.length
 | [],ds,fs,vs,hfz,h,hr,hw => by
  simp [znf7] at h
  simp only [RepL] at hr
  subst hr
  rw [h.1]
  simp [FlatD]
 | x :: l,ds,fs,vs,hfz,h,hr,hw => by
  simp only [znf7] at h
  cases e1 : dec C.ρ x with
  | none => simp [e1] at h
  | some p =>
   cases e2 : znf7 C.ρ l with
   | none => simp [e1,e2] at h
   | some q =>
    simp only [e1,e2,Option.some.injEq,Prod.mk.injEq] at h
    obtain ⟨rfl,rfl⟩:=h
    simp only [RepL] at hr
    obtain ⟨c,cs,rfl,h2,h3⟩:=hr
    simp only [List.all_cons,Bool.and_eq_true,beq_iff_eq] at hw
    have hv:=dec_rep hg (fun id hid => hfz id (by simp [hid])) e1 h2
    obtain ⟨i1,i2,i3⟩:=decAll_rep hg (fun id hid => hfz id (by simp [hid])) e2 h3 hw.2
    have hc : c.cells.toList.length = sz:=by rw [hv.1.length]; exact hw.1
    refine ⟨?_,?_,by simp [i3]⟩
    ·simp only [List.map_cons,List.flatten_cons,FlatD]
     exact ⟨_,_,rfl,hc,hv.1,i1⟩
    ·intro v hv'
     cases hv' with
     | head => simpa using hc
     | tail _ hv' => exact i2 v hv'
end
end Go.Am
