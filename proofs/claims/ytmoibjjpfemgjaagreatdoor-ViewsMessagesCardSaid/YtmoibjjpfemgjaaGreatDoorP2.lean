/- Parts of the proofs of the statement, joined and made short: AmDefs AmComp AmRegion. -/
import Derived.Calls
set_option linter.unusedVariables false
set_option linter.unusedSimpArgs false
set_option linter.unusedSectionVars false
namespace Go.Am
theorem orMap {a b c d:Prop} (h:a∨b) (f:a→c) (g:b→d):c∨d:=by
 rcases h with h|h
 ·exact .inl (f h)
 ·exact .inr (g h)
inductive Dat where
 |int (k:IntKind) (n:Int)
 |bool (b:Bool)
 |str (s:List UInt8)
 |sl (l:List Dat)
 |agg (l:List Dat)
 deriving Inhabited
def Dat.cells:Dat→List Dat
 |.agg l=>l
 |.int k n=>[.int k n]
 |.bool b=>[.bool b]
 |.str s=>[.str s]
 |.sl l=>[.sl l]
def Dat.isAgg:Dat→Bool
 |.agg _=>true
 |.int _ _=>false
 |.bool _=>false
 |.str _=>false
 |.sl _=>false
def Dat.width (d:Dat):Nat:=d.cells.length
abbrev RId:=Nat×Nat
abbrev Id:=RId×Nat×Nat
abbrev nid (site:Nat):Id:=((site+1,0),0,0)
inductive AVal where
 |dat (d:Dat)
 |nils
 |emp (isNil:Bool)
 |cap0
 |fsl (l:List Dat)
 |nilp
 |ref (id:Id) (off:Nat)
 |eref (id:Id) (ver i off:Nat)
 |rsl (id:Id) (ver sz off len:Nat)
 |fp (cells:List Dat)
 |lits (sz n:Nat) (l:List AVal)
 |agg (l:List AVal)
 |tup (l:List AVal)
 |fn (f:FuncId) (caps:List AVal)
 |bref (y:Bool) (id:Id)
 |undef
 |junk
 deriving Inhabited
def AVal.cells:AVal→List AVal
 |.agg l=>l
 |.dat d=>d.cells.map .dat
 |.nils=>[.nils]
 |.emp t=>[.emp t]
 |.cap0=>[.cap0]
 |.fsl l=>[.fsl l]
 |.nilp=>[.nilp]
 |.ref id off=>[.ref id off]
 |.eref id ver i off=>[.eref id ver i off]
 |.rsl id ver sz off len=>[.rsl id ver sz off len]
 |.fp l=>[.fp l]
 |.lits sz n l=>[.lits sz n l]
 |.tup l=>[.tup l]
 |.fn f l=>[.fn f l]
 |.bref y id=>[.bref y id]
 |.undef=>[.undef]
 |.junk=>[.junk]
def AVal.leaf:AVal→Bool
 |.dat d=>!d.isAgg
 |.agg _=>false
 |.tup _=>false
 |.undef=>false
 |.nils=>true
 |.emp _=>true
 |.cap0=>true
 |.fsl _=>true
 |.nilp=>true
 |.ref _ _=>true
 |.eref _ _ _ _=>true
 |.rsl _ _ _ _ _=>true
 |.fp _=>true
 |.lits _ _ _=>true
 |.fn _ _=>true
 |.bref _ _=>true
 |.junk=>true
section
variable (d:Dat) (ds:List Dat) (l:List AVal) (id:Id) (a b c e:Nat) (k:IntKind) (n:Int) (t:Bool) (s:List UInt8)
@[simp] theorem Dat.cells_agg:(Dat.agg ds).cells=ds:=rfl
@[simp] theorem Dat.cells_int:(Dat.int k n).cells=[.int k n]:=rfl
@[simp] theorem Dat.cells_bool:(Dat.bool t).cells=[.bool t]:=rfl
@[simp] theorem Dat.cells_str:(Dat.str s).cells=[.str s]:=rfl
@[simp] theorem Dat.cells_sl:(Dat.sl ds).cells=[.sl ds]:=rfl
@[simp] theorem Dat.isAgg_agg:(Dat.agg ds).isAgg=true:=rfl
@[simp] theorem Dat.isAgg_int:(Dat.int k n).isAgg=false:=rfl
@[simp] theorem Dat.isAgg_bool:(Dat.bool t).isAgg=false:=rfl
@[simp] theorem Dat.isAgg_str:(Dat.str s).isAgg=false:=rfl
@[simp] theorem Dat.isAgg_sl:(Dat.sl ds).isAgg=false:=rfl
@[simp] theorem AVal.cells_agg:(AVal.agg l).cells=l:=rfl
@[simp] theorem AVal.leaf_agg:(AVal.agg l).leaf=false:=rfl
@[simp] theorem AVal.cells_dat:(AVal.dat d).cells=d.cells.map .dat:=rfl
@[simp] theorem AVal.leaf_dat:(AVal.dat d).leaf=(!d.isAgg):=rfl
@[simp] theorem AVal.cells_emp:(AVal.emp t).cells=[.emp t]:=rfl
@[simp] theorem AVal.leaf_emp:(AVal.emp t).leaf=true:=rfl
@[simp] theorem AVal.cells_cap0:(AVal.cap0).cells=[.cap0]:=rfl
@[simp] theorem AVal.leaf_cap0:(AVal.cap0).leaf=true:=rfl
@[simp] theorem AVal.cells_fsl:(AVal.fsl ds).cells=[.fsl ds]:=rfl
@[simp] theorem AVal.leaf_fsl:(AVal.fsl ds).leaf=true:=rfl
@[simp] theorem AVal.cells_nils:(AVal.nils).cells=[.nils]:=rfl
@[simp] theorem AVal.leaf_nils:(AVal.nils).leaf=true:=rfl
@[simp] theorem AVal.cells_nilp:(AVal.nilp).cells=[.nilp]:=rfl
@[simp] theorem AVal.leaf_nilp:(AVal.nilp).leaf=true:=rfl
@[simp] theorem AVal.cells_ref:(AVal.ref id a).cells=[.ref id a]:=rfl
@[simp] theorem AVal.leaf_ref:(AVal.ref id a).leaf=true:=rfl
@[simp] theorem AVal.cells_eref:(AVal.eref id a b c).cells=[.eref id a b c]:=rfl
@[simp] theorem AVal.leaf_eref:(AVal.eref id a b c).leaf=true:=rfl
@[simp] theorem AVal.cells_rsl:(AVal.rsl id a b c e).cells=[.rsl id a b c e]:=rfl
@[simp] theorem AVal.leaf_rsl:(AVal.rsl id a b c e).leaf=true:=rfl
@[simp] theorem AVal.cells_fp:(AVal.fp ds).cells=[.fp ds]:=rfl
@[simp] theorem AVal.leaf_fp:(AVal.fp ds).leaf=true:=rfl
@[simp] theorem AVal.cells_lits:(AVal.lits a b l).cells=[.lits a b l]:=rfl
@[simp] theorem AVal.leaf_lits:(AVal.lits a b l).leaf=true:=rfl
@[simp] theorem AVal.cells_tup:(AVal.tup l).cells=[.tup l]:=rfl
@[simp] theorem AVal.leaf_tup:(AVal.tup l).leaf=false:=rfl
@[simp] theorem AVal.cells_fn:(AVal.fn a l).cells=[.fn a l]:=rfl
@[simp] theorem AVal.leaf_fn:(AVal.fn a l).leaf=true:=rfl
@[simp] theorem AVal.cells_bref:(AVal.bref t id).cells=[.bref t id]:=rfl
@[simp] theorem AVal.leaf_bref:(AVal.bref t id).leaf=true:=rfl
@[simp] theorem AVal.cells_junk:(AVal.junk).cells=[.junk]:=rfl
@[simp] theorem AVal.leaf_junk:(AVal.junk).leaf=true:=rfl
@[simp] theorem AVal.cells_undef:(AVal.undef).cells=[.undef]:=rfl
@[simp] theorem AVal.leaf_undef:(AVal.undef).leaf=false:=rfl
end
inductive AEx where
 |normal
 |exit (id:Nat)
 |ret
 deriving DecidableEq,Inhabited
abbrev Env:=List (Nat×AVal)
inductive LSt where
 |ready
 |busy
 |done (e:AEx)
 deriving DecidableEq,Inhabited
def LSt.out:LSt→Option AEx
 |.ready=>some .normal
 |.done e=>some e
 |.busy=>none
inductive Blk where
 |map (es:List (Dat×AVal))
 |loop (k:Nat) (st:LSt) (env:Env)
 |dead
 deriving Inhabited
inductive Obj where
 |box (cells:List AVal)
 |arr (sz ver:Nat) (fz:Bool) (elems:List Dat)
 |rarr (sz ver:Nat) (elems:List (List AVal))
 |blk (x:Blk)
 deriving Inhabited
class Glob where
 tab:Nat→Option (List Dat)
 lps:Nat→Option (Nat×Array Tmp×Code×Code)
abbrev Store:=List (Id×Obj)
def gE:Env→Nat→AVal
 |[],_=>.undef
 |(t',v)::r,t=>if t'=t then v else gE r t
def gO:Store→Id→Option Obj
 |[],_=>none
 |(i',o)::r,i=>if i'=i then some o else gO r i
def pO:Store→Id→Obj→Store
 |[],i,o=>[(i,o)]
 |(i',o')::r,i,o=>if i'=i then (i,o)::r else (i',o')::pO r i o
def pOs (s:Store):List (Id×Obj)→Store
 |[]=>s
 |(i,o)::r=>pOs (pO s i o) r
abbrev Look:=Id→Option Obj
def updL (ρ:Look):List (Id×Obj)→Look
 |[]=>ρ
 |(i,o)::r=>updL (fun j=>if i=j then some o else ρ j) r
def capE:AVal→Option AVal
 |.nils=>some (.dat (.int .i64 0))
 |.cap0=>some (.dat (.int .i64 0))
 |_=>none
@[irreducible] def BIGF:Nat:=2000
def elemsOf (ρ:Look) (sz:Nat):AVal→Option (List Dat)
 |.dat (.sl l)=>if l.all (fun d=>d.width==sz) then some l else none
 |.nils=>some []
 |.emp _=>some []
 |.cap0=>some []
 |.rsl id ver sz' off len=>
  match ρ id with
  |some (.arr sz'' ver' _ es)=>if ver=ver'∧sz=sz'∧sz'=sz''∧off+len≤es.length then some ((es.drop off).take len) else none
  |_=>none
 |_=>none
def srcOf (ρ:Look) (sz:Nat):AVal→Option (List Dat)
 |.dat (.str s)=>if sz=1 then some (s.map fun b=>.int .u8 b.toNat) else none
 |v=>elemsOf ρ sz v
def zpb7 (ρ:Look):AVal→Option (Dat×List Id)
 |.dat d=>some (d,[])
 |.nils=>some (.sl [],[])
 |.emp _=>some (.sl [],[])
 |.cap0=>some (.sl [],[])
 |.fsl l=>some (.sl l,[])
 |.rsl id ver sz off len=>
  match ρ id with
  |some (.arr sz' ver' _ es)=>if ver=ver'∧sz=sz'∧off+len≤es.length then some (.sl ((es.drop off).take len),[id]) else none
  |_=>none
 |_=>none
def zqa7 (ρ:Look):List AVal→Option (List Dat×List Id)
 |[]=>some ([],[])
 |v::r=>
  match zpb7 ρ v,zqa7 ρ r with
  |some (d,f),some (ds,fs)=>if d.isAgg then none else some (d::ds,f++fs)
  |_,_=>none
def dec (ρ:Look):AVal→Option (Dat×List Id)
 |.agg l=>match zqa7 ρ l with
  |some (ds,fs)=>some (.agg ds,fs)
  |none=>none
 |v=>zpb7 ρ v
def decAll (ρ:Look):List AVal→Option (List Dat×List Id)
 |[]=>some ([],[])
 |v::r=>
  match dec ρ v,decAll ρ r with
  |some (d,f),some (ds,fs)=>some (d::ds,f++fs)
  |_,_=>none
def frz (ρ:Look):List Id→List (Id×Obj)
 |[]=>[]
 |id::r=>
  match ρ id with
  |some (.arr sz ver _ es)=>(id,.arr sz ver true es)::frz ρ r
  |_=>frz ρ r
def zwa7 (ρ:Look) (id:Id):Option Nat:=
 match ρ id with
 |none=>some 0
 |some (.arr _ v _ _)=>some (v+1)
 |some (.rarr _ v _)=>some (v+1)
 |some (.box _)=>none
 |some (.blk _)=>none
mutual
def AVal.ids:AVal→List Id
 |.ref id _=>[id]
 |.eref id _ _ _=>[id]
 |.rsl id _ _ _ _=>[id]
 |.lits _ _ l=>AVal.idsL l
 |.agg l=>AVal.idsL l
 |.tup l=>AVal.idsL l
 |.fn _ l=>AVal.idsL l
 |.bref _ id=>[id]
 |_=>[]
def AVal.idsL:List AVal→List Id
 |[]=>[]
 |v::r=>AVal.ids v++AVal.idsL r
end
def Obj.ids:Obj→List Id
 |.box l=>AVal.idsL l
 |.arr _ _ _ _=>[]
 |.rarr _ _ l=>l.flatMap AVal.idsL
 |.blk (.map es)=>AVal.idsL (es.map (·.2))
 |.blk (.loop _ _ e)=>AVal.idsL (e.map (·.2))
 |.blk .dead=>[]
mutual
def AVal.ren (f:Id→Id):AVal→AVal
 |.ref id off=>.ref (f id) off
 |.eref id ver i off=>.eref (f id) ver i off
 |.rsl id ver sz off len=>.rsl (f id) ver sz off len
 |.lits sz n l=>.lits sz n (AVal.renL f l)
 |.agg l=>.agg (AVal.renL f l)
 |.tup l=>.tup (AVal.renL f l)
 |.fn g l=>.fn g (AVal.renL f l)
 |.dat d=>.dat d
 |.nils=>.nils
 |.emp t=>.emp t
 |.cap0=>.cap0
 |.fsl l=>.fsl l
 |.nilp=>.nilp
 |.fp l=>.fp l
 |.bref y id=>.bref y (f id)
 |.undef=>.undef
 |.junk=>.junk
def AVal.renL (f:Id→Id):List AVal→List AVal
 |[]=>[]
 |v::r=>AVal.ren f v::AVal.renL f r
end
def Obj.ren (f:Id→Id):Obj→Obj
 |.box l=>.box (AVal.renL f l)
 |.arr sz ver fz es=>.arr sz ver fz es
 |.rarr sz ver l=>.rarr sz ver (l.map (AVal.renL f))
 |.blk (.map es)=>.blk (.map (es.map fun p=>(p.1,p.2.ren f)))
 |.blk .dead=>.blk .dead
 |.blk (.loop k st e)=>.blk (.loop k st (e.map fun p=>(p.1,p.2.ren f)))
def intE (op:BinOp) (k:IntKind) (a b:Int):Option AVal:=
 match op with
 |.add=>some (.dat (.int k (k.wrap (a+b))))
 |.sub=>some (.dat (.int k (k.wrap (a-b))))
 |.mul=>some (.dat (.int k (k.wrap (a*b))))
 |.quo=>if b=0 then none else some (.dat (.int k (k.wrap (a.tdiv b))))
 |.rem=>if b=0 then none else some (.dat (.int k (a.tmod b)))
 |.and=>some (.dat (.int k (k.wrap ((BitVec.ofInt k.bits a &&& BitVec.ofInt k.bits b).toNat))))
 |.or=>some (.dat (.int k (k.wrap ((BitVec.ofInt k.bits a ||| BitVec.ofInt k.bits b).toNat))))
 |.xor=>some (.dat (.int k (k.wrap ((BitVec.ofInt k.bits a ^^^ BitVec.ofInt k.bits b).toNat))))
 |.andNot=>some (.dat (.int k (k.wrap ((BitVec.ofInt k.bits a &&& ~~~ BitVec.ofInt k.bits b).toNat))))
 |.eql=>some (.dat (.bool (decide (a=b))))
 |.neq=>some (.dat (.bool (!decide (a=b))))
 |.lss=>some (.dat (.bool (decide (a<b))))
 |.leq=>some (.dat (.bool (decide (a≤b))))
 |.gtr=>some (.dat (.bool (decide (a>b))))
 |.geq=>some (.dat (.bool (decide (a≥b))))
 |_=>none
def shiftE (op:BinOp) (k:IntKind) (a b:Int):Option AVal:=
 if b<0 then none else
 match op with
 |.shl=>some (.dat (.int k (k.wrap (a*2 ^ (min b.toNat k.bits)))))
 |.shr=>some (.dat (.int k (a.fdiv (2 ^ (min b.toNat k.bits)))))
 |_=>none
inductive Sh where
 |int (k:IntKind)|bool|str
 deriving DecidableEq,Inhabited
inductive BK where
 |int|bool|str|ptr|slc|agg (sh:List Sh)
 deriving DecidableEq
def eqCell:Sh→Dat→Dat→Option Bool
 |.int k,.int k1 a,.int k2 b=>if k1=k∧k2=k then some (decide (a=b)) else none
 |.bool,.bool a,.bool b=>some (a==b)
 |.str,.str a,.str b=>some (a==b)
 |_,_,_=>none
def zra7:List Sh→List Dat→List Dat→Option Bool
 |[],[],[]=>some true
 |s::r,x::xs,y::ys=>match eqCell s x y,zra7 r xs ys with
  |some a,some b=>some (a&&b)
  |_,_=>none
 |_,_,_=>none
def aggOf:AVal→Option (List Dat)
 |.dat (.agg l)=>some l
 |.agg l=>datsOf l
 |_=>none
 where
 datsOf:List AVal→Option (List Dat)
  |[]=>some []
  |.dat d::r=>match datsOf r with
   |some ds=>some (d::ds)
   |none=>none
  |_::_=>none
def boolE (op:BinOp) (a b:Bool):Option AVal:=
 match op with
 |.eql=>some (.dat (.bool (a==b)))
 |.neq=>some (.dat (.bool (!(a==b))))
 |_=>none
def strE (op:BinOp) (a b:List UInt8):Option AVal:=
 match op with
 |.eql=>some (.dat (.bool (a==b)))
 |.neq=>some (.dat (.bool (!(a==b))))
 |.lss=>some (.dat (.bool (Op.bytesLess a b)))
 |.leq=>some (.dat (.bool (Op.bytesLess a b||a==b)))
 |.gtr=>some (.dat (.bool (!(Op.bytesLess a b||a==b))))
 |.geq=>some (.dat (.bool (!Op.bytesLess a b)))
 |.add=>if a.length+b.length≤1099511627776 then some (.dat (.str (a++b))) else none
 |_=>none
def nilPE:AVal→Option Bool
 |.nilp=>some true
 |.ref _ _|.eref _ _ _ _|.fp _=>some false
 |_=>none
def nilSE:AVal→Option Bool
 |.nils=>some true
 |.emp t=>some t
 |.dat (.sl (_::_))=>some false
 |.rsl _ _ _ _ (_+1)=>some false
 |.lits _ (_+1) _=>some false
 |_=>none
def cmpE (op:BinOp) (b:Bool):Option AVal:=
 match op with
 |.eql=>some (.dat (.bool b))
 |.neq=>some (.dat (.bool (!b)))
 |_=>none
def binE (bk:BK) (op:BinOp) (x y:AVal):Option AVal:=
 match bk,x,y with
 |.int,.dat (.int k a),.dat (.int k' b)=>
  match op with
  |.shl|.shr=>shiftE op k a b
  |_=>if k=k' then intE op k a b else none
 |.bool,.dat (.bool a),.dat (.bool b)=>boolE op a b
 |.str,.dat (.str a),.dat (.str b)=>strE op a b
 |.ptr,x,.nilp=>match nilPE x with
  |some b=>cmpE op b
  |none=>none
 |.ptr,.nilp,y=>match nilPE y with
  |some b=>cmpE op b
  |none=>none
 |.slc,x,.nils=>match nilSE x with
  |some b=>cmpE op b
  |none=>none
 |.agg sh,x,y=>match aggOf x,aggOf y with
  |some a,some b=>match zra7 sh a b with
   |some e=>cmpE op e
   |none=>none
  |_,_=>none
 |_,_,_=>none
def unE (op:UnOp) (x:AVal):Option AVal:=
 match op,x with
 |.neg,.dat (.int k n)=>some (.dat (.int k (k.wrap (0-n))))
 |.xor,.dat (.int k n)=>some (.dat (.int k (k.wrap ((BitVec.ofInt k.bits (if k.signed then -1 else k.max) ^^^ BitVec.ofInt k.bits n).toNat))))
 |.not,.dat (.bool b)=>some (.dat (.bool (!b)))
 |_,_=>none
def mmE (isMax:Bool):AVal→AVal→Option AVal
 |.dat (.int k a),.dat (.int k' b)=>
  if k=k' then (if isMax then some (.dat (.int k (if b>a then b else a))) else some (.dat (.int k (if b<a then b else a)))) else none
 |_,_=>none
def mmsE (isMax:Bool):AVal→List AVal→Option AVal
 |x,[]=>match x with
  |.dat (.int _ _)=>some x
  |_=>none
 |x,y::r=>match mmE isMax x y with
  |some z=>mmsE isMax z r
  |none=>none
inductive AX where
 |t (n:Nat)
 |c (v:AVal)
 deriving Inhabited
inductive Md where
 |d|o|r|f
 deriving DecidableEq,Inhabited
inductive AK where
 |mv (x:AX)
 |mvNil (md:Md) (sz:Nat)
 |pick (c a b:AX)
 |nilChk (x:AX)
 |bin (bk:BK) (op:BinOp) (x y:AX)
 |un (op:UnOp) (x:AX)
 |cvt (k:IntKind) (x:AX)
 |b2s (x:AX)
 |fAddr (off:Nat) (x:AX)
 |fld (off n:Nat) (agg:Bool) (x:AX)
 |iAddr (sz:Nat) (x i:AX)
 |iAddrA (n sz:Nat) (x i:AX)
 |idx (n sz:Nat) (agg:Bool) (x i:AX)
 |idxS (x i:AX)
 |ext (i:Nat) (x:AX)
 |len (str:Bool) (x:AX)
 |mm (isMax:Bool) (x:AX) (r:List AX)
 |bld (zero:List AVal) (parts:List (Nat×Nat×AX))
 |bldS (md:Md) (sz:Nat) (xs:List AX)
 |box (n:Nat) (x:AX)
 |alc (zero:List AVal)
 |ld (n:Nat) (agg:Bool) (a:AX)
 |st (mv:Bool) (n:Nat) (a v:AX)
 |mk (md:Md) (sz bytes:Nat) (zero:List AVal) (l c:AX)
 |slc (str:Bool) (sz:Nat) (x:AX) (lo hi:Option AX)
 |app (md:Md) (sz bytes:Nat) (x y:AX)
 |cpy (sz:Nat) (x y:AX)
 |mkf (f:FuncId) (caps:List AX)
 |slc0 (x l h m:AX)
 |slc3 (sz:Nat) (x l h m:AX)
 |capK (x:AX)
 |appZ (sz bytes:Nat) (zero:List AVal) (x y:AX)
 |dead
 |clr (zero:List AVal) (x:AX)
 |call (f:FuncId) (args:List (AX×Bool)) (scalar:Bool)
 |callV (x:AX) (args:List (AX×Bool)) (scalar:Bool)
 |mkMap (f:Bool)
 |lkp (ag:Bool) (sh:List Sh) (zero:List AVal) (ok:Bool) (m k:AX)
 |mup (ag:Bool) (sh:List Sh) (m k v:AX)
 |lenM (m:AX)
 deriving Inhabited
structure AO where
 dst:Option Nat
 k:AK
 guard:Option (Nat×Bool):=none
 lg:Bool:=false
 deriving Inhabited
structure AReg where
 live:List Nat
 drop:List Nat
 ops:List AO
 pairs:List (Nat×Nat)
 deriving Inhabited
inductive AC where
 |skip
 |reg (r:AReg)
 |seq (a b:AC)
 |cond (x:AX) (a b:AC)
 |block (id:Nat) (c:AC)
 |loop (c:AC)
 |exit (id:Nat)
 |ret
 |rf (x:AX) (k site:Nat) (caps:List Nat)
 deriving Inhabited
inductive AR where
 |t (n:Nat)
 |cell (n size:Nat) (agg:Bool)
 deriving DecidableEq,Inhabited
structure AFun where
 np:Nat
 res:List AR
 keep:Bool
 code:AC
 split:Option Nat:=none
 deriving Inhabited
structure ALoop where
 ps:List Nat
 assign:AC
 body:AC
 deriving Inhabited
abbrev Out:=AVal×List (Id×Obj)
def evX (g:Nat→AVal):AX→AVal
 |.t n=>g n
 |.c v=>v
def zmb7:AVal→Option Int
 |.dat (.int _ n)=>some n
 |_=>none
def ptrAdd (n:Nat):AVal→Option AVal
 |.ref id off=>some (.ref id (off+n))
 |.eref id ver i off=>some (.eref id ver i (off+n))
 |.fp l=>if n≤l.length then some (.fp (l.drop n)) else none
 |_=>none
def partE (agg:Bool) (off n:Nat):AVal→Option AVal
 |.agg l=>if off+n≤l.length then (if agg then some (.agg ((l.drop off).take n)) else l[off]?) else none
 |.dat (.agg l)=>if off+n≤l.length then (if agg then some (.dat (.agg ((l.drop off).take n))) else (l[off]?).map .dat) else none
 |_=>none
def iAddrE (sz:Nat) (x:AVal) (i:Int):Option AVal:=
 match x with
 |.rsl id ver sz' off len=>if sz=sz'∧0≤i∧i<len then some (.eref id ver (off+i.toNat) 0) else none
 |.dat (.sl l)=>if 0≤i then (match l[i.toNat]? with
  |some d=>if d.width=sz then some (.fp d.cells) else none
  |none=>none) else none
 |_=>none
def sliceE (sz:Nat) (x:AVal) (lo:Int) (hi:Option Int):Option AVal:=
 match x with
 |.rsl id ver sz' off len=>
  let h:=hi.getD len
  if 0≤lo∧lo≤h∧h≤len∧sz=sz' then some (.rsl id ver sz' (off+lo.toNat) (h-lo).toNat) else none
 |.dat (.sl l)=>
  let h:=hi.getD l.length
  if 0≤lo∧lo≤h∧h≤l.length∧l.all (fun d=>d.width==sz) then some (.dat (.sl ((l.drop lo.toNat).take (h-lo).toNat))) else none
 |.nils=>if lo=0∧hi.getD 0=0 then some .nils else none
 |_=>none
def fullE (b:Bool) (v:AVal):AVal:=
 match v with
 |.dat (.sl l)=>if b then .fsl l else .dat (.sl l)
 |v=>v
def cap0E:AVal→Option AVal
 |.nils=>some .nils
 |.emp _=>some .cap0
 |.cap0=>some .cap0
 |.dat (.sl _)=>some .cap0
 |.rsl _ _ _ _ _=>some .cap0
 |_=>none
def sliceS (x:AVal) (lo:Int) (hi:Option Int):Option AVal:=
 match x with
 |.dat (.str l)=>
  let h:=hi.getD l.length
  if 0≤lo∧lo≤h∧h≤l.length then some (.dat (.str ((l.drop lo.toNat).take (h-lo).toNat))) else none
 |_=>none
def lenE:AVal→Option AVal
 |.rsl _ _ _ _ len=>some (.dat (.int .i64 len))
 |.dat (.sl l)=>some (.dat (.int .i64 l.length))
 |.nils=>some (.dat (.int .i64 0))
 |.emp _=>some (.dat (.int .i64 0))
 |.cap0=>some (.dat (.int .i64 0))
 |.lits _ n _=>some (.dat (.int .i64 n))
 |_=>none
def lenS:AVal→Option AVal
 |.dat (.str l)=>some (.dat (.int .i64 l.length))
 |_=>none
def chunk {α:Type} (sz:Nat):Nat→List α→List (List α)
 |0,_=>[]
 |n+1,l=>l.take sz::chunk sz n (l.drop sz)
def preN {α:Type} (n:Nat) (l:List α):List α:=if n=l.length then l else l.take n
theorem preN_take {α:Type} {n:Nat} {l:List α}:preN n l=l.take n:=by
 unfold preN;split
 ·rename_i h;subst h;simp
 ·rfl
def rsrcOf (ρ:Look) (sz:Nat):AVal→Option (List (List AVal))
 |.lits szl k ws=>if szl=sz then some (chunk sz k ws) else none
 |.nils=>some []
 |.emp _=>some []
 |.cap0=>some []
 |.rsl id ver sz' off len=>
  match ρ id with
  |some (.rarr sz'' ver' es)=>if ver=ver'∧sz=sz'∧sz'=sz''∧off+len≤es.length then some ((es.drop off).take len) else none
  |_=>none
 |_=>none
def splice {α:Type} (l:List α) (off:Nat) (v:List α):List α:=l.take off++v++l.drop (off+v.length)
def loadE (ρ:Look) (n:Nat) (agg:Bool):AVal→Option AVal
 |.ref id off=>match ρ id with
  |some (.box cs)=>if off+n≤cs.length then (if agg then some (.agg ((cs.drop off).take n)) else cs[off]?) else none
  |_=>none
 |.eref id ver i off=>match ρ id with
  |some (.arr _ ver' _ es)=>if ver=ver' then (match es[i]? with
   |some d=>if off+n≤d.cells.length then (if agg then some (.dat (.agg ((d.cells.drop off).take n))) else (d.cells[off]?).map .dat) else none
   |none=>none) else none
  |some (.rarr _ ver' es)=>if ver=ver' then (match es[i]? with
   |some row=>if off+n≤row.length then (if agg then some (.agg ((row.drop off).take n)) else row[off]?) else none
   |none=>none) else none
  |_=>none
 |.fp l=>if n≤l.length then (if agg then some (.dat (.agg (l.take n))) else (l[0]?).map .dat) else none
 |_=>none
def storeE (ρ:Look) (n:Nat) (a v:AVal):Option (List (Id×Obj)):=
 match a with
 |.ref id off=>match ρ id with
  |some (.box cs)=>if v.cells.length=n∧off+n≤cs.length∧v.cells.all AVal.leaf then some [(id,.box (splice cs off v.cells))] else none
  |_=>none
 |.eref id ver i off=>match ρ id with
  |some (.arr sz ver' false es)=>
   match dec ρ v,es[i]? with
   |some (d,fs),some e=>
    if ver=ver'∧d.width=n∧off+n≤sz∧id∉fs∧e.width=sz then
     some (frz ρ fs++[(id,.arr sz ver false (es.set i (if e.isAgg then .agg (splice e.cells off d.cells) else d)))])
    else none
   |_,_=>none
  |some (.rarr sz ver' es)=>match es[i]? with
   |some row=>if ver=ver'∧v.cells.length=n∧off+n≤row.length∧v.cells.all AVal.leaf then some [(id,.rarr sz ver (es.set i (splice row off v.cells)))] else none
   |none=>none
  |_=>none
 |_=>none
def zla7 {α:Type}:List (Option α)→Option (List α)
 |[]=>some []
 |none::_=>none
 |some a::r=>match zla7 r with
  |some l=>some (a::l)
  |none=>none
def fillE (cs:List AVal):List (Nat×Nat×AVal)→Option (List AVal)
 |[]=>some cs
 |(off,n,v)::r=>if v.cells.length=n∧off+n≤cs.length∧v.cells.all AVal.leaf then fillE (splice cs off v.cells) r else none
def zrc7 (zero:List AVal):Option Dat:=
 match zero with
 |[.dat d]=>if d.isAgg then none else some d
 |[.nils]=>some (.sl [])
 |_=>match zqa7 (fun _=>none) zero with
  |some (ds,_)=>some (.agg ds)
  |none=>none
def room:Nat:=1099511627776
def scalD:Dat→Bool
 |.int _ _=>true
 |.bool _=>true
 |.str _=>true
 |.sl _=>false
 |.agg _=>false
def scalV:AVal→Bool
 |.dat d=>scalD d
 |.tup l=>l.all fun|.dat d=>scalD d|_=>false
 |_=>false
def findE {β:Type} (ag:Bool) (sh:List Sh) (k:Dat):List (Dat×β)→Option (Option Nat)
 |[]=>some none
 |e::r=>if e.1.isAgg !=ag then none else match zra7 sh k.cells e.1.cells with
  |some true=>some (some 0)
  |some false=>match findE ag sh k r with
   |some (some i)=>some (some (i+1))
   |some none=>some none
   |none=>none
  |none=>none
def keyE (ag:Bool) (sh:List Sh) (v:AVal):Option Dat:=
 match (match v with
  |.dat d=>some d
  |.agg l=>(aggOf (.agg l)).map .agg
  |_=>none) with
 |some kd=>if kd.isAgg=ag∧zra7 sh kd.cells kd.cells=some true then some kd else none
 |none=>none
def zeroV (zero:List AVal) (z:Dat):AVal:=
 match zero with
 |[.nils]=>.nils
 |_=>.dat z
def lkpE (ρ:Look) (ag:Bool) (sh:List Sh) (zero:List AVal) (ok:Bool) (m k:AVal):Option AVal:=
 match m,keyE ag sh k,zrc7 zero with
 |.bref false id,some kd,some z=>match ρ id with
  |some (.blk (.map es))=>match findE ag sh kd es with
   |some (some i)=>match es[i]? with
    |some e=>some (if ok then .tup [e.2,.dat (.bool true)] else e.2)
    |none=>none
   |some none=>some (if ok then .tup [zeroV zero z,.dat (.bool false)] else zeroV zero z)
   |none=>none
  |_=>none
 |_,_,_=>none
def mupE (ρ:Look) (ag:Bool) (sh:List Sh) (m k v:AVal):Option (List (Id×Obj)):=
 match m,keyE ag sh k,dec ρ v with
 |.bref false id,some kd,some (d,fs)=>match ρ id with
  |some (.blk (.map es))=>match findE ag sh kd es with
   |some (some i)=>some (frz ρ fs++[(id,.blk (.map (es.set i (kd,.dat d))))])
   |some none=>some (frz ρ fs++[(id,.blk (.map (es++[(kd,.dat d)])))])
   |none=>none
  |_=>none
 |_,_,_=>none
def lenME (ρ:Look):AVal→Option AVal
 |.bref false id=>match ρ id with
  |some (.blk (.map es))=>some (.dat (.int .i64 es.length))
  |_=>none
 |_=>none
def opE (site:Nat) (k:AK) (g:Nat→AVal) (ρ:Look):Option Out:=
 match k with
 |.mv x=>some (evX g x,[])
 |.mvNil md sz=>match zwa7 ρ (nid site) with
  |none=>none
  |some nv=>match md with
   |.o=>if 1≤sz then some (.rsl (nid site) nv sz 0 0,[(nid site,.arr sz nv false [])]) else none
   |.r=>if 1≤sz then some (.rsl (nid site) nv sz 0 0,[(nid site,.rarr sz nv [])]) else none
   |.d=>none
   |.f=>none
 |.pick c a b=>match evX g c with
  |.dat (.bool t)=>some (if t then evX g a else evX g b,[])
  |_=>none
 |.nilChk x=>match evX g x with
  |.ref id off=>some (.ref id off,[])
  |.eref id ver i off=>some (.eref id ver i off,[])
  |.fp l=>some (.fp l,[])
  |.fn f l=>some (.fn f l,[])
  |_=>none
 |.bin bk op x y=>(binE bk op (evX g x) (evX g y)).map (·,[])
 |.un op x=>(unE op (evX g x)).map (·,[])
 |.cvt k x=>match evX g x with
  |.dat (.int _ n)=>some (.dat (.int k (k.wrap n)),[])
  |_=>none
 |.b2s x=>match elemsOf ρ 1 (evX g x) with
  |some l=>match zla7 (l.map fun|.int .u8 n=>some (UInt8.ofNat n.toNat)|_=>none) with
   |some s=>some (.dat (.str s),[])
   |none=>none
  |none=>none
 |.fAddr off x=>(ptrAdd off (evX g x)).map (·,[])
 |.fld off n agg x=>(partE agg off n (evX g x)).map (·,[])
 |.iAddr sz x i=>match zmb7 (evX g i) with
  |some i=>(iAddrE sz (evX g x) i).map (·,[])
  |none=>none
 |.iAddrA n sz x i=>match zmb7 (evX g i) with
  |some i=>if 0≤i∧i<n then (ptrAdd (i.toNat*sz) (evX g x)).map (·,[]) else none
  |none=>none
 |.idx n sz agg x i=>match zmb7 (evX g i) with
  |some i=>if 0≤i∧i<n then (partE agg (i.toNat*sz) sz (evX g x)).map (·,[]) else none
  |none=>none
 |.idxS x i=>match evX g x,zmb7 (evX g i) with
  |.dat (.str s),some i=>if 0≤i then (s[i.toNat]?).map fun b=>(.dat (.int .u8 b.toNat),[]) else none
  |_,_=>none
 |.ext i x=>match evX g x with
  |.tup l=>(l[i]?).map (·,[])
  |_=>none
 |.len str x=>(if str then lenS (evX g x) else lenE (evX g x)).map (·,[])
 |.mm isMax x r=>(mmsE isMax (evX g x) (r.map (evX g))).map (·,[])
 |.bld zero parts=>(fillE zero (parts.map fun p=>(p.1,p.2.1,evX g p.2.2))).map fun cs=>(.agg cs,[])
 |.bldS md sz xs=>
  let vs:=xs.map (evX g)
  match md with
  |.r=>if 1≤sz∧vs.all (fun v=>v.cells.length==sz&&v.cells.all AVal.leaf) then some (.lits sz vs.length (vs.flatMap AVal.cells),[]) else none
  |.f=>if vs.length=0 then some (.cap0,[]) else match zwa7 ρ (nid site) with
   |some nv=>if 1≤sz∧vs.all (fun v=>v.cells.length==sz&&v.cells.all AVal.leaf) then some (.rsl (nid site) nv sz 0 vs.length,[(nid site,.rarr sz nv (vs.map AVal.cells))]) else none
   |none=>none
  |_=>match decAll ρ vs with
   |some (ds,fs)=>
    if ds.all (fun d=>d.width==sz) then
     match md with
     |.d=>some (.dat (.sl ds),frz ρ fs)
     |_=>match zwa7 ρ (nid site) with
      |some nv=>if 1≤sz∧nid site∉fs then some (.rsl (nid site) nv sz 0 ds.length,frz ρ fs++[(nid site,.arr sz nv false ds)]) else none
      |none=>none
    else none
   |none=>none
 |.box n x=>match ρ (nid site) with
  |some _=>none
  |none=>if (evX g x).cells.length=n∧(evX g x).cells.all AVal.leaf then some (.ref (nid site) 0,[(nid site,.box (evX g x).cells)]) else none
 |.alc zero=>match ρ (nid site) with
  |some _=>none
  |none=>some (.ref (nid site) 0,[(nid site,.box zero)])
 |.ld n agg a=>(loadE ρ n agg (evX g a)).map (·,[])
 |.st _ n a v=>(storeE ρ n (evX g a) (evX g v)).map (.tup [],·)
 |.mk md sz bytes zero l c=>match zmb7 (evX g l),zmb7 (evX g c) with
  |some l,some c=>
   if 0≤l∧l≤c∧bytes*c≤room∧c≤room then
    match md with
    |.r=>match zwa7 ρ (nid site) with
     |some nv=>if 1≤sz∧zero.length=sz∧zero.all AVal.leaf∧AVal.idsL zero=[] then some (.rsl (nid site) nv sz 0 l.toNat,[(nid site,.rarr sz nv (List.replicate l.toNat zero))]) else none
     |none=>none
    |_=>match zrc7 zero with
     |some z=>if z.width=sz∧1≤sz then
       (match md with
       |.d=>some (.dat (.sl (List.replicate l.toNat z)),[])
       |_=>match zwa7 ρ (nid site) with
        |none=>none
        |some nv=>some (.rsl (nid site) nv sz 0 l.toNat,[(nid site,.arr sz nv false (List.replicate l.toNat z))]))
      else none
     |none=>none
   else none
  |_,_=>none
 |.slc str sz x lo hi=>
  match (match lo with|some l=>zmb7 (evX g l)|none=>some 0),(match hi with|some h=>(zmb7 (evX g h)).map some|none=>some none) with
  |some l,some h=>(if str then sliceS (evX g x) l h else sliceE sz (evX g x) l h).map (·,[])
  |_,_=>none
 |.app md sz bytes x y=>
  match evX g x with
  |.rsl id ver sz' off len=>
   match ρ id with
   |some (.arr sz'' ver' false es)=>
    match srcOf ρ sz (evX g y) with
    |some ds=>
     if ver=ver'∧sz=sz'∧sz'=sz''∧off=0∧len≤es.length∧(len+ds.length)*(bytes+1)≤room then
      (if ds.length=0 then some (.rsl id ver sz' off len,[])
      else some (.rsl id (ver+1) sz' off (len+ds.length),[(id,.arr sz (ver+1) false (preN len es++ds))]))
     else none
    |none=>none
   |some (.rarr sz'' ver' es)=>
    match rsrcOf ρ sz (evX g y) with
    |some ds=>
     if ver=ver'∧sz=sz'∧sz'=sz''∧off=0∧len≤es.length∧(len+ds.length)*(bytes+1)≤room then
      (if ds.length=0 then some (.rsl id ver sz' off len,[])
      else some (.rsl id (ver+1) sz' off (len+ds.length),[(id,.rarr sz (ver+1) (preN len es++ds))]))
     else none
    |none=>none
   |_=>none
  |.nils=>
   match md with
   |.r=>match rsrcOf ρ sz (evX g y) with
    |some ds=>if ds.length=0 then some (.nils,[]) else match zwa7 ρ (nid site) with
     |some nv=>if 1≤sz∧ds.length*(bytes+1)≤room then some (.rsl (nid site) nv sz 0 ds.length,[(nid site,.rarr sz nv ds)]) else none
     |none=>none
    |none=>none
   |_=>match srcOf ρ sz (evX g y) with
    |some ds=>if ds.length=0 then some (.nils,[]) else match zwa7 ρ (nid site) with
     |some nv=>if 1≤sz∧ds.length*(bytes+1)≤room then some (.rsl (nid site) nv sz 0 ds.length,[(nid site,.arr sz nv false ds)]) else none
     |none=>none
    |none=>none
  |.cap0=>match md with
   |.r=>match rsrcOf ρ sz (evX g y) with
    |some ds=>if ds.length=0 then some (.cap0,[]) else match zwa7 ρ (nid site) with
     |some nv=>if 1≤sz∧ds.length*(bytes+1)≤room then some (.rsl (nid site) nv sz 0 ds.length,[(nid site,.rarr sz nv ds)]) else none
     |none=>none
    |none=>none
   |_=>match srcOf ρ sz (evX g y) with
    |some ds=>if ds.length=0 then some (.cap0,[]) else match zwa7 ρ (nid site) with
     |some nv=>if 1≤sz∧ds.length*(bytes+1)≤room then some (.rsl (nid site) nv sz 0 ds.length,[(nid site,.arr sz nv false ds)]) else none
     |none=>none
    |none=>none
  |.fsl l=>match srcOf ρ sz (evX g y),zwa7 ρ (nid site) with
   |some ds,some nv=>if 1≤sz∧ds.length≠0∧(l.all fun d=>d.width==sz)=true∧(l.length+ds.length)*(bytes+1)≤room then some (.rsl (nid site) nv sz 0 (l.length+ds.length),[(nid site,.arr sz nv false (l++ds))]) else none
   |_,_=>none
  |_=>none
 |.cpy sz x y=>
  match evX g x,srcOf ρ sz (evX g y) with
  |.rsl id ver sz' off len,some ds=>
   (match ρ id with
   |some (.arr sz'' ver' false es)=>
    if ver=ver'∧sz=sz'∧sz'=sz''∧off+len≤es.length then
     some (.dat (.int .i64 (min ds.length len:Nat)),[(id,.arr sz ver false (splice es off (ds.take len)))])
    else none
   |_=>none)
  |_,_=>none
 |.clr zero x=>
  match evX g x,zrc7 zero with
  |.rsl id ver sz off len,some z=>
   (match ρ id with
   |some (.arr sz' ver' false es)=>
    if ver=ver'∧sz=sz'∧off+len≤es.length∧z.width=sz then
     some (.tup [],[(id,.arr sz ver false (splice es off (List.replicate len z)))])
    else none
   |_=>none)
  |_,_=>none
 |.mkf f caps=>some (.fn f (caps.map (evX g)),[])
 |.slc0 x l h m=>match zmb7 (evX g l),zmb7 (evX g h),zmb7 (evX g m) with
  |some 0,some 0,some 0=>(cap0E (evX g x)).map (·,[])
  |_,_,_=>none
 |.slc3 sz x l h m=>match zmb7 (evX g l),zmb7 (evX g h),zmb7 (evX g m) with
  |some l,some h,some m=>match zpb7 ρ (evX g x) with
   |some (.sl ds,ids)=>if h≤m∧m≤ds.length then ((sliceE sz (.dat (.sl ds)) l (some h)).map (fullE (decide (h=m)))).map (·,frz ρ ids) else none
   |_=>none
  |_,_,_=>none
 |.capK x=>(capE (evX g x)).map (·,[])
 |.appZ sz bytes zero x y=>
  match evX g x with
  |.nils=>
   match zmb7 (evX g y),zrc7 zero with
   |some n,some z=>
    if 1≤n∧n*(bytes+1)≤room∧z.width=sz∧1≤sz then
     match zwa7 ρ (nid site) with
     |some nv=>some (.rsl (nid site) nv sz 0 n.toNat,[(nid site,.arr sz nv false (List.replicate n.toNat z))])
     |none=>none
    else none
   |_,_=>none
  |_=>none
 |.dead=>none
 |.call _ _ _=>none
 |.callV _ _ _=>none
 |.mkMap _=>match ρ (nid site) with
  |some _=>none
  |none=>some (.bref false (nid site),[(nid site,.blk (.map []))])
 |.lkp ag sh zero ok m k=>(lkpE ρ ag sh zero ok (evX g m) (evX g k)).map (·,[])
 |.mup ag sh m k v=>(mupE ρ ag sh (evX g m) (evX g k) (evX g v)).map (.tup [],·)
 |.lenM m=>(lenME ρ (evX g m)).map (·,[])
end Go.Am

namespace Go.Am
variable [Glob]
def cst:Value→Option AVal
 |.int k n=>some (.dat (.int k n))
 |.bool b=>some (.dat (.bool b))
 |.string s=>some (.dat (.str s.data.toList))
 |.slice none 0 0=>some .nils
 |.pointer none=>some .nilp
 |.nilFunc=>some .junk
 |.nilIface=>some .junk
 |.map none=>some .junk
 |_=>none
def cstCells (v:Value):Option (List AVal):=zla7 (v.cells.toList.map cst)
def cX:Operand→Option AX
 |.tmp t=>some (.t t)
 |.const v=>match v with
  |.agg cs=>(zla7 (cs.toList.map cst)).map fun l=>.c (.agg l)
  |v=>(cst v).map .c
 |.func f=>if f<BIGF then some (.c (.fn f [])) else none
 |.global g=>(Glob.tab g).map fun ds=>.c (.fp ds)
def cXs (xs:Array Operand):Option (List AX):=zla7 (xs.toList.map cX)
structure TI where
 size:Nat
 bytes:Nat
 agg:Bool
 zero:Option (List AVal)
def tI (P:Program) (t:TypeId):Option TI:=
 match P.info? t,P.underlying t with
 |some i,some d=>some ⟨i.size,i.bytes,match d with|.struct _|.array _ _=>true|_=>false,i.zero.bind cstCells⟩
 |_,_=>none
def TI.zok (q:TI):Bool:=
 match q.zero with
 |some l=>l.length==q.size&&decide (1≤q.size)
 |none=>false
def structOk (P:Program) (t:TypeId):Bool:=
 match P.underlying t with
 |some (.struct fs)=>fs.toList.all fun fd=>(tI P fd.type).isSome
 |_=>false
def elemT (P:Program) (t:TypeId):Option TypeId:=
 match P.underlying t with
 |some (.slice e)=>some e
 |_=>none
def fieldT (P:Program) (t:TypeId) (f:Nat):Option (Nat×TI):=
 match P.underlying t with
 |some (.struct fs)=>match fs[f]? with
  |some fd=>(tI P fd.type).map fun i=>(fd.offset,i)
  |none=>none
 |_=>none
def zsd7 (P:Program) (g:TypeId→Option (List Sh)):Nat→List Field→Option (List Sh)
 |_,[]=>some []
 |o,f::fs=>match g f.type,zsd7 P g (o+P.cellsOf f.type) fs with
  |some l,some r=>if f.offset=o∧l.length=P.cellsOf f.type∧f.name ≠ "_" ∧ (P.info? f.type).isSome=true then some (l++r) else none
  |_,_=>none
def shapeOf (P:Program):Nat→TypeId→Option (List Sh)
 |0,_=>none
 |m+1,t=>
  match P.underlying t with
  |some (.int k)=>some [.int k]
  |some .bool=>some [.bool]
  |some .string=>some [.str]
  |some (.struct fs)=>if P.stoodInHeld t||P.eqGuardType P.depth t then none else zsd7 P (shapeOf P m) 0 fs.toList
  |some (.array n e)=>if P.eqGuardType P.depth t then none else match shapeOf P m e with
   |some l=>if l.length=P.cellsOf e∧(P.info? e).isSome=true then some (List.replicate n l).flatten else none
   |none=>none
  |_=>none
def bkOf (P:Program) (t:TypeId):Option BK:=
 match P.underlying t with
 |some (.int _)=>some .int
 |some .bool=>some .bool
 |some .string=>some .str
 |some (.pointer _)=>some .ptr
 |some (.slice _)=>some .slc
 |some (.struct _)|some (.array _ _)=>(shapeOf P 6 t).map .agg
 |_=>none
def zfd7 (P:Program) (t:TypeId):Bool:=
 match P.underlying t with
 |some (.int _)|some .bool|some .string=>true
 |_=>false
def keyOk (P:Program) (t:TypeId):Bool:=
 match P.underlying t with
 |some (.int _)|some .bool|some .string=>true
 |some (.struct fs)=>fs.toList.all fun f=>zfd7 P f.type
 |some (.array _ e)=>zfd7 P e
 |_=>false
def aggK (P:Program) (t:TypeId):Bool:=
 match P.underlying t with
 |some (.struct _)=>true
 |some (.array _ _)=>true
 |_=>false
def zeroAg (P:Program) (t:TypeId):Option Bool:=
 ((P.info? t).bind (·.zero)).map fun v=>match v with|.agg _=>true|_=>false
def mapT (P:Program) (t:TypeId):Option (TypeId×List Sh×TypeId×TI):=
 match P.underlying t with
 |some (.map k e)=>match shapeOf P 6 k,tI P e with
  |some sh,some q=>if keyOk P k=true then some (k,sh,e,q) else none
  |_,_=>none
 |_=>none
def zkb7 (P:Program) (f:FuncId):Bool:=
 match P.funcs[f]? with
 |some fn=>fn.name != "runtime.NumGoroutine" && fn.body.isSome
 |none=>false
def partsOf (P:Program) (t:TypeId) (parts:List (Nat×Operand)):Option (List (Nat×Nat×AX)):=
 zla7 (parts.map fun p=>match fieldT P t p.1,cX p.2 with
  |some (off,i),some x=>some (off,i.size,x)
  |_,_=>none)
def partsA (n size:Nat) (parts:List (Nat×Operand)):Option (List (Nat×Nat×AX)):=
 zla7 (parts.map fun p=>match cX p.2 with
  |some x=>if p.1<n then some (p.1*size,size,x) else none
  |none=>none)
structure Mk where
 md:Md:=.d
 byRef:List Nat:=[]
def cOp (P:Program) (m:Mk) (o:Oper):Option AK:=
 match o.op with
 |.move x|.assign x=>
  if m.md=.d then (cX x).map .mv else
  match x with
  |.const (.slice none 0 0)=>match (elemT P o.type).bind (tI P) with
   |some i=>if 1≤i.size then some (.mvNil m.md i.size) else none
   |none=>none
  |_=>none
 |.pick c a b=>match cX c,cX a,cX b with
  |some c,some a,some b=>some (.pick c a b)
  |_,_,_=>none
 |.nilCheck x=>(cX x).map .nilChk
 |.binOp op t x y _=>match bkOf P t,cX x,cX y with
  |some bk,some x,some y=>some (.bin bk op x y)
  |_,_,_=>none
 |.unOp op _ x=>(cX x).map (.un op)
 |.convert s d x=>match P.underlying s,P.underlying d,cX x with
  |some (.int _),some (.int k),some x=>some (.cvt k x)
  |some (.slice e),some .string,some x=>match P.underlying e,tI P e with
   |some (.int .u8),some i=>if i.size=1 then some (.b2s x) else none
   |_,_=>none
  |_,_,_=>none
 |.fieldAddr t x f=>match fieldT P t f,cX x with
  |some (off,i),some x=>if i.size=0 then none else some (.fAddr off x)
  |_,_=>none
 |.field t x f=>match fieldT P t f,cX x with
  |some (off,i),some x=>if 1≤i.size then some (.fld off i.size i.agg x) else none
  |_,_=>none
 |.indexAddr t x i=>match P.underlying t,cX x,cX i with
  |some (.slice e),some x,some i=>(tI P e).map fun q=>.iAddr q.size x i
  |some (.array n e),some x,some i=>(tI P e).map fun q=>.iAddrA n q.size x i
  |_,_,_=>none
 |.index t x i=>match P.underlying t,cX x,cX i with
  |some (.array n e),some x,some i=>match tI P e with
   |some q=>if 1≤q.size then some (.idx n q.size q.agg x i) else none
   |none=>none
  |some .string,some x,some i=>some (.idxS x i)
  |_,_,_=>none
 |.extract x i=>(cX x).map (.ext i)
 |.load t a=>match tI P t,cX a with
  |some i,some a=>if 1≤i.size then some (.ld i.size i.agg a) else none
  |_,_=>none
 |.store t a v=>match tI P t,cX a,cX v with
  |some i,some a,some v=>if 1≤i.size then some (.st (m.md==.f) i.size a v) else none
  |_,_,_=>none
 |.box t x=>match tI P t,cX x with
  |some i,some x=>some (.box i.size x)
  |_,_=>none
 |.alloc t=>match tI P t with
  |some i=>i.zero.map .alc
  |none=>none
 |.build t parts=>match P.underlying t with
  |some (.array n e)=>match tI P t,tI P e with
   |some i,some q=>match partsA n q.size parts.toList with
    |some ps=>i.zero.map fun z=>.bld z ps
    |none=>none
   |_,_=>none
  |_=>match tI P t,partsOf P t parts.toList with
   |some i,some ps=>if structOk P t then i.zero.map fun z=>.bld z ps else none
   |_,_=>none
 |.buildSlice t len parts=>match (elemT P t).bind (tI P),zla7 ((parts.toList.map (·.2)).map cX) with
  |some i,some xs=>if parts.toList.map (·.1)=List.range len∧len*i.size≤1048576∧1≤i.size∧i.zero.isSome then some (.bldS m.md i.size xs) else none
  |_,_=>none
 |.makeSlice t l c=>match (elemT P t).bind (tI P),cX l,cX c with
  |some i,some l,some c=>i.zero.map fun z=>.mk m.md i.size i.bytes z l c
  |_,_,_=>none
 |.slice t x lo hi none=>
  match (match P.underlying t with|some .string=>some (true,1)|some (.slice e)=>(tI P e).map (fun q=>(false,q.size))|_=>none),cX x,
   (match lo with|some l=>(cX l).map some|none=>some none),(match hi with|some h=>(cX h).map some|none=>some none) with
  |some (str,sz),some x,some lo,some hi=>some (.slc str sz x lo hi)
  |_,_,_,_=>none
 |.slice t x none (some hi) (some mx)=>match P.underlying t,cX x,cX hi,cX mx with
  |some (.slice e),some x,some h,some m=>(tI P e).map fun q=>.slc3 q.size x (.c (.dat (.int .i64 0))) h m
  |_,_,_,_=>none
 |.slice t x (some lo) (some hi) (some mx)=>match P.underlying t,cX x,cX lo,cX hi,cX mx with
  |some (.slice e),some x,some l,some h,some m=>(tI P e).map fun q=>match h with|.c (.dat (.int _ 0))=>.slc0 x l h m|_=>.slc3 q.size x l h m
  |_,_,_,_,_=>none
 |.makeFunc (.func f) first captured=>if BIGF≤f then none else if first.size=0 then (cXs captured).map (.mkf f) else if captured.size=0 then (cXs first).map (.mkf (f+BIGF)) else none
 |.makeMap _ none=>some (.mkMap (match m.md with|.f=>true|_=>false))
 |.lookup t m k ok=>match mapT P t,cX m,cX k with
  |some (kt,sh,e,q),some m,some k=>match q.zero with
   |some z=>if zeroAg P e=(zrc7 z).map Dat.isAgg then some (.lkp (aggK P kt) sh z ok m k) else none
   |none=>none
  |_,_,_=>none
 |.mapUpdate t m k v=>match mapT P t,cX m,cX k,cX v with
  |some (kt,sh,_,_),some m,some k,some v=>some (.mup (aggK P kt) sh m k v)
  |_,_,_,_=>none
 |.panic _=>some .dead
 |.makeInterface _ _=>some .dead
 |.call c=>match c.callee,cXs c.args with
  |.builtin .len,some [x]=>match (c.argTypes[0]?).bind P.underlying with
   |some (.slice _)=>some (.len false x)
   |some .string=>some (.len true x)
   |some (.map _ _)=>some (.lenM x)
   |_=>none
  |.builtin .cap,some [x]=>match (c.argTypes[0]?).bind P.underlying with
   |some (.slice _)=>some (.capK x)
   |_=>none
  |.builtin .append,some [x,y]=>match ((c.argTypes[0]?).bind (elemT P)).bind (tI P),(c.argTypes[1]?).bind P.underlying with
   |some i,some (.slice _)=>if i.zok then some (.app m.md i.size i.bytes x y) else none
   |some i,some .string=>if i.zok then some (.app m.md i.size i.bytes x y) else none
   |some i,some (.int _)=>i.zero.map fun z=>.appZ i.size i.bytes z x y
   |_,_=>none
  |.builtin .copy,some [x,y]=>match ((c.argTypes[0]?).bind (elemT P)).bind (tI P) with
   |some i=>some (.cpy i.size x y)
   |_=>none
  |.builtin .clear,some [x]=>match ((c.argTypes[0]?).bind (elemT P)).bind (tI P) with
   |some i=>if i.zok then i.zero.map fun z=>.clr z x else none
   |_=>none
  |.builtin .max,some (x::r)=>some (.mm true x r)
  |.builtin .min,some (x::r)=>some (.mm false x r)
  |.value (.func f),some xs=>match P.funcs[f]? with
   |some fn=>if fn.body.isNone then some .dead else if zkb7 P f then some (.call f (xs.zipIdx.map fun p=>(p.1,m.byRef.contains p.2)) (fn.resultTypes.toList.all (zfd7 P))) else none
   |none=>none
  |.value x,some xs=>(cX x).map fun x=>.callV x (xs.zipIdx.map fun p=>(p.1,m.byRef.contains p.2)) (!m.byRef.contains 1000)
  |_,_=>none
 |_=>none
end Go.Am

namespace Go.Am
variable [Glob]
structure RAnn where
 id:Nat
 live:List Nat
 drop:List Nat:=[]
 marks:List (Nat×Mk):=[]
abbrev Ann:=List RAnn
def annOf:Ann→Nat→Option RAnn
 |[],_=>none
 |r::l,i=>if r.id=i then some r else annOf l i
def mkOf:List (Nat×Mk)→Nat→Mk
 |[],_=>{}
 |(j,m)::r,i=>if j=i then m else mkOf r i
def AK.kind:AK→Nat
 |.ld ..|.b2s ..|.lkp ..|.lenM ..=>1
 |.mkMap ..|.mup ..|.mvNil ..|.box ..|.alc ..|.st ..|.app ..|.cpy ..|.clr ..|.slc3 ..|.appZ ..|.call ..|.callV ..=>2
 |.bldS md _ _=>if md=.r then 0 else 2
 |.mk md _ _ _ _ _=>if md=.d then 0 else 2
 |_=>0
def AX.slots:AX→List Nat
 |.t n=>[n]
 |.c _=>[]
def AX.slotsL:List AX→List Nat
 |[]=>[]
 |x::r=>x.slots++AX.slotsL r
def AK.slots:AK→List Nat
 |.mv x=>x.slots
 |.mvNil _ _=>[]
 |.pick c a b=>c.slots++a.slots++b.slots
 |.nilChk x=>x.slots
 |.bin _ _ x y=>x.slots++y.slots
 |.un _ x=>x.slots
 |.cvt _ x=>x.slots
 |.b2s x=>x.slots
 |.fAddr _ x=>x.slots
 |.fld _ _ _ x=>x.slots
 |.iAddr _ x i=>x.slots++i.slots
 |.iAddrA _ _ x i=>x.slots++i.slots
 |.idx _ _ _ x i=>x.slots++i.slots
 |.idxS x i=>x.slots++i.slots
 |.ext _ x=>x.slots
 |.len _ x=>x.slots
 |.mm _ x r=>x.slots++AX.slotsL r
 |.bld _ ps=>AX.slotsL (ps.map fun p=>p.2.2)
 |.bldS _ _ xs=>AX.slotsL xs
 |.box _ x=>x.slots
 |.alc _=>[]
 |.ld _ _ a=>a.slots
 |.st _ _ a v=>a.slots++v.slots
 |.mk _ _ _ _ l c=>l.slots++c.slots
 |.slc _ _ x lo hi=>x.slots++AX.slotsL lo.toList++AX.slotsL hi.toList
 |.app _ _ _ x y=>x.slots++y.slots
 |.cpy _ x y=>x.slots++y.slots
 |.clr _ x=>x.slots
 |.mkf _ caps=>AX.slotsL caps
 |.slc3 _ x l h m=>x.slots++l.slots++h.slots++m.slots
 |.capK x=>x.slots
 |.appZ _ _ _ x y=>x.slots++y.slots
 |.slc0 x l h m=>x.slots++l.slots++h.slots++m.slots
 |.dead=>[]
 |.call _ args _=>AX.slotsL (args.map (·.1))
 |.callV x args _=>x.slots++AX.slotsL (args.map (·.1))
 |.mkMap _=>[]
 |.lkp _ _ _ _ m k=>m.slots++k.slots
 |.mup _ _ m k v=>m.slots++k.slots++v.slots
 |.lenM m=>m.slots
def AO.seen (o:AO):List Nat:=o.k.slots++(match o.guard with|some (t,_)=>[t]|none=>[])
def zbf7 (x y:AO):Bool:=
 (match x.dst with|some d=>y.seen.contains d||y.dst==some d|none=>false) ||
 (match y.dst with|some d=>x.seen.contains d|none=>false)
def edges (o:Oper):List Nat:=o.after.toList.filterMap fun e=>if Region.binds .any e then some e.on else none
def maskOf (acc:List Nat):List Nat→Nat
 |[]=>0
 |e::r=>2 ^ e ||| (acc.getD e 0) ||| maskOf acc r
def befs:List Oper→List Nat→List Nat
 |[],acc=>acc
 |o::r,acc=>befs r (acc++[maskOf acc (edges o)])
def cOper (P:Program) (n:Nat) (ms:List (Nat×Mk)) (ops:List Oper) (i:Nat) (o:Oper):Option (AK×Option (Nat×Bool)):=
 match cOp P (mkOf ms i) o,(match o.guard with
  |none=>some none
  |some (j,want)=>match ops[j]?.bind (·.dst) with
   |some t=>some (some (t,want))
   |none=>none) with
 |some k,some g=>if o.dst.all (·<n) then some (k,g) else none
 |_,_=>none
def pairsOf (ops:List Oper) (ks:List AK) (bs:List Nat):Nat→List (Nat×Nat)
 |0=>[]
 |j+1=>pairsOf ops ks bs j++((List.range j).filterMap fun i=>
   if (bs.getD j 0).testBit i then none else
   match ks[i]?,ks[j]? with
   |some a,some b=>if (a.kind==2&&b.kind !=0)||(b.kind==2&&a.kind !=0) then some (i,j) else none
   |_,_=>none)
def clashes (ops:List AO) (bs:List Nat):Nat→Bool
 |0=>false
 |j+1=>clashes ops bs j||(List.range j).any fun i=>
   !(bs.getD j 0).testBit i&&(match ops[i]?,ops[j]? with|some a,some b=>zbf7 a b|_,_=>false)
def edgesOk:Nat→List Oper→Bool
 |_,[]=>true
 |i,o::r=>(edges o).all (fun e=>decide (e<i))&&edgesOk (i+1) r
def cOpers (P:Program) (n:Nat) (ms:List (Nat×Mk)) (ops:List Oper):Nat→List Oper→Option (List (AK×Option (Nat×Bool)))
 |_,[]=>some []
 |i,o::r=>match cOper P n ms ops i o,cOpers P n ms ops (i+1) r with
  |some x,some l=>some (x::l)
  |_,_=>none
def aosOf (ps:List (Nat×Nat)):Nat→List Oper→List (AK×Option (Nat×Bool))→List AO
 |i,o::r,(k,g)::l=>⟨o.dst,k,g,ps.any fun p=>p.1==i||p.2==i⟩::aosOf ps (i+1) r l
 |_,_,_=>[]
def cReg (P:Program) (n:Nat) (an:Ann) (id:Nat) (ops:Array Oper) (draw:Bool):Option AReg:=
 match annOf an id,cOpers P n ((annOf an id).elim [] (·.marks)) ops.toList 0 ops.toList with
 |some r,some l=>
  if draw then
   let bs:=befs ops.toList []
   let ps:=pairsOf ops.toList (l.map (·.1)) bs ops.size
   if P.follows .mixedOrders&&edgesOk 0 ops.toList&&!clashes (aosOf ps 0 ops.toList l) bs ops.size then some ⟨r.live,r.drop,aosOf ps 0 ops.toList l,ps⟩ else none
  else some ⟨r.live,r.drop,aosOf [] 0 ops.toList l,[]⟩
 |_,_=>none
def rfs:Code→List (Array Tmp×Code×Code)
 |.seq a b=>rfs a++rfs b
 |.cond _ a b=>rfs a++rfs b
 |.block _ c=>rfs c
 |.loop c=>rfs c
 |.scope c=>rfs c
 |.rangeFunc _ ps a b=>[(ps,a,b)]
 |_=>[]
def RFID:Nat:=1000000
def tagOf (an:Ann):Nat:=
 match annOf an RFID with
 |some r=>r.drop.headD 0
 |none=>0
def rfOk (an:Ann) (f:FuncId) (c:Code):Bool:=
 match rfs c with
 |[]=>true
 |[_]=>tagOf an==f
 |_=>false
def cCode (P:Program) (n:Nat) (an:Ann):Code→Option AC
 |.skip=>some .skip
 |.region id ops draw=>(cReg P n an id ops draw).map .reg
 |.seq a b=>match cCode P n an a,cCode P n an b with
  |some a,some b=>some (.seq a b)
  |_,_=>none
 |.cond c a b=>match cX c,cCode P n an a,cCode P n an b with
  |some x,some a,some b=>some (.cond x a b)
  |_,_,_=>none
 |.block id c=>(cCode P n an c).map (.block id)
 |.loop c=>(cCode P n an c).map .loop
 |.exit id=>some (.exit id)
 |.ret=>some .ret
 |.label _=>some .skip
 |.scope c=>cCode P n an c
 |.rangeFunc g ps a b=>match annOf an RFID,cX g with
  |some r,some x=>some (.rf x (tagOf an) n r.live)
  |_,_=>none
 |_=>none
def cLoop (P:Program) (an:Ann) (f:FuncId):Option ALoop:=
 match P.funcs[f]? with
 |some fn=>match fn.body.map rfs with
  |some [(ps,a,b)]=>match cCode P fn.ntmps an a,cCode P fn.ntmps an b with
   |some a',some b'=>if ps.toList.Nodup∧ps.toList.all (·<fn.ntmps)=true∧rfs a=[]∧rfs b=[] then some ⟨ps.toList,a',b'⟩ else none
   |_,_=>none
  |_=>none
 |none=>none
def cRes1 (P:Program) (n:Nat):ResultVar→Option AR
 |.tmp t=>if t<n then some (.t t) else none
 |.cell t ty=>match tI P ty with
  |some q=>if t<n∧1≤q.size then some (.cell t q.size q.agg) else none
  |none=>none
def cRes (P:Program) (n:Nat):List ResultVar→Option (List AR)
 |[]=>some []
 |x::r=>match cRes1 P n x,cRes P n r with
  |some a,some l=>some (a::l)
  |_,_=>none
def cFun (P:Program) (an:Ann) (keep:Bool) (f:FuncId):Option AFun:=
 match P.funcs[f]? with
 |some fn=>match fn.body with
  |some c=>match cCode P fn.ntmps an c,cRes P fn.ntmps fn.results.toList with
   |some ac,some res=>if fn.params.size+fn.nfree≤fn.ntmps&&zkb7 P f&&rfOk an f c then some ⟨fn.params.size+fn.nfree,res,keep,ac,none⟩ else none
   |_,_=>none
  |none=>none
 |none=>none
end Go.Am
