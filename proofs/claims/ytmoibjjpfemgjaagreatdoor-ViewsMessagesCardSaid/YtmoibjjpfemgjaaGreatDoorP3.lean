/- Parts of the proofs of the statement, joined and made short: AmShort AmTree. -/
import Derived.Test.YtmoibjjpfemgjaaGreatDoorP2
set_option linter.unusedVariables false
set_option linter.unusedSimpArgs false
set_option linter.unusedSectionVars false
namespace Go.Am
def marksS:Nat→List AO→List (Nat×Mk)
 |_,[]=>[]
 |i,o::r=>
  let m:Mk:=match o.k with
   |.mvNil md _=>⟨md,[]⟩
   |.bldS md _ _=>⟨md,[]⟩
   |.mk md _ _ _ _ _=>⟨md,[]⟩
   |.app md _ _ _ _=>⟨md,[]⟩
   |.st true _ _ _=>⟨.f,[]⟩
   |.mkMap true=>⟨.f,[]⟩
   |.call _ args _=>⟨.d,(List.range args.length).filter fun i=>(args[i]?.map (·.2)).getD false⟩
   |.callV _ args sc=>⟨.d,(if sc then [] else [1000])++(List.range args.length).filter fun i=>(args[i]?.map (·.2)).getD false⟩
   |_=>{}
  (i,m)::marksS (i+1) r
def annS:Code→AC→Ann
 |.region id _ _,.reg r=>[⟨id,r.live,r.drop,marksS 0 r.ops⟩]
 |.seq a b,.seq a' b'=>annS a a'++annS b b'
 |.cond _ a b,.cond _ a' b'=>annS a a'++annS b b'
 |.block _ c,.block _ c'=>annS c c'
 |.loop c,.loop c'=>annS c c'
 |.scope c,c'=>annS c c'
 |.rangeFunc _ _ _ _,.rf _ k _ caps=>[⟨RFID,caps,[k],[]⟩]
 |_,_=>[]
def annL (P:Program) (f:FuncId) (lp:ALoop):Ann:=
 match P.funcs[f]? with
 |some fn=>match fn.body.map rfs with
  |some [(_,a,b)]=>annS a lp.assign++annS b lp.body
  |_=>[]
 |none=>[]
def annF (P:Program) (f:FuncId) (fn:AFun):Ann:=
 match P.funcs[f]? with
 |some g=>match g.body with
  |some c=>annS c fn.code
  |none=>[]
 |none=>[]
namespace Z
instance axN {n:Nat}:OfNat AX n:=⟨.t (OfNat.ofNat n)⟩
@[simp] theorem ax_num (n:Nat):(@OfNat.ofNat AX n axN)=.t (OfNat.ofNat n):=rfl
@[reducible] def i (n:Int):AX:=.c (.dat (.int .i64 n))
@[reducible] def T:AX:=.c (.dat (.bool true))
@[reducible] def F:AX:=.c (.dat (.bool false))
@[reducible] def N:AX:=.c .nils
@[reducible] def P:AX:=.c .nilp
@[reducible] def I:AVal:=.dat (.int .i64 0)
@[reducible] def o (d:Nat) (k:AK):AO:=⟨some d,k,none,false⟩
@[reducible] def u (k:AK):AO:=⟨none,k,none,false⟩
@[reducible] def m (d:Nat) (x:AX):AO:=⟨some d,.mv x,none,false⟩
@[reducible] def ln (d:Nat) (x:AX):AO:=⟨some d,.len false x,none,false⟩
@[reducible] def eq (d:Nat) (x y:AX):AO:=⟨some d,.bin .int .eql x y,none,false⟩
@[reducible] def ne (d:Nat) (x y:AX):AO:=⟨some d,.bin .int .neq x y,none,false⟩
@[reducible] def lt (d:Nat) (x y:AX):AO:=⟨some d,.bin .int .lss x y,none,false⟩
@[reducible] def le (d:Nat) (x y:AX):AO:=⟨some d,.bin .int .leq x y,none,false⟩
@[reducible] def gt (d:Nat) (x y:AX):AO:=⟨some d,.bin .int .gtr x y,none,false⟩
@[reducible] def ge (d:Nat) (x y:AX):AO:=⟨some d,.bin .int .geq x y,none,false⟩
@[reducible] def ad (d:Nat) (x y:AX):AO:=⟨some d,.bin .int .add x y,none,false⟩
@[reducible] def sb (d:Nat) (x y:AX):AO:=⟨some d,.bin .int .sub x y,none,false⟩
@[reducible] def nt (d:Nat) (x:AX):AO:=⟨some d,.un .not x,none,false⟩
@[reducible] def f (d off:Nat) (x:AX):AO:=⟨some d,.fld off 1 false x,none,false⟩
@[reducible] def fs (d off n:Nat) (x:AX):AO:=⟨some d,.fld off n true x,none,false⟩
@[reducible] def a (d off:Nat) (x:AX):AO:=⟨some d,.fAddr off x,none,false⟩
@[reducible] def ix (d sz:Nat) (x j:AX):AO:=⟨some d,.iAddr sz x j,none,false⟩
@[reducible] def l (d:Nat) (x:AX):AO:=⟨some d,.ld 1 false x,none,false⟩
@[reducible] def la (d n:Nat) (x:AX):AO:=⟨some d,.ld n true x,none,false⟩
@[reducible] def s (x v:AX):AO:=⟨none,.st false 1 x v,none,false⟩
@[reducible] def sa (n:Nat) (x v:AX):AO:=⟨none,.st false n x v,none,false⟩
@[reducible] def x (d j:Nat) (y:AX):AO:=⟨some d,.ext j y,none,false⟩
@[reducible] def c (d f:Nat) (l:List AX):AO:=⟨some d,.call f (l.map fun x=>(x,false)) false,none,false⟩
@[reducible] def cs (d f:Nat) (l:List AX):AO:=⟨some d,.call f (l.map fun x=>(x,false)) true,none,false⟩
@[reducible] def bx (d n:Nat) (x:AX):AO:=⟨some d,.box n x,none,false⟩
@[reducible] def al (d:Nat) (z:List AVal):AO:=⟨some d,.alc z,none,false⟩
@[reducible] def g (live:List Nat) (ops:List AO):AC:=.reg ⟨live,[],ops,[]⟩
@[reducible] def gd (live drop:List Nat) (ops:List AO):AC:=.reg ⟨live,drop,ops,[]⟩
@[reducible] def gp (live drop:List Nat) (ops:List AO) (ps:List (Nat×Nat)):AC:=.reg ⟨live,drop,ops,ps⟩
@[reducible] def k (x:AX) (a b:AC):AC:=.cond x a b
@[reducible] def z:AC:=.skip
@[reducible] def R:AC:=.ret
@[reducible] def E (n:Nat):AC:=.exit n
@[reducible] def B (n:Nat) (c:AC):AC:=.block n c
@[reducible] def L (c:AC):AC:=.loop c
def q:List AC→AC
 |[]=>.skip
 |[a]=>a
 |a::b::r=>.seq a (q (b::r))
def G (t:Nat) (b:Bool) (l r:List AO):List AO:=(l.map fun o=>⟨o.dst,o.k,some (t,b),o.lg⟩)++r
@[simp] theorem G_nil (t:Nat) (b:Bool) (r:List AO):G t b [] r=r:=rfl
@[simp] theorem G_cons (t:Nat) (b:Bool) (d:Option Nat) (k:AK) (g:Option (Nat×Bool)) (w:Bool) (l r:List AO):G t b (⟨d,k,g,w⟩::l) r=⟨d,k,some (t,b),w⟩::G t b l r:=rfl
def W (l r:List AO):List AO:=(l.map fun o=>⟨o.dst,o.k,o.guard,true⟩)++r
@[simp] theorem W_nil (r:List AO):W [] r=r:=rfl
@[simp] theorem W_cons (d:Option Nat) (k:AK) (g:Option (Nat×Bool)) (w:Bool) (l r:List AO):W (⟨d,k,g,w⟩::l) r=⟨d,k,g,true⟩::W l r:=rfl
attribute [simp] i T F N P I
end Z
end Go.Am

namespace Go.Am
inductive Cell where
 |nil
 |d (l:List Dat)
 |own (fresh fz:Bool) (sz:Nat) (l:List Dat)
 deriving Inhabited
inductive TObj where
 |plain (o:Obj)
 |fam (ver pv:Nat) (fz:Bool) (cells:List Cell)
 |mapf (pv:Nat) (es:List (Dat×Cell))
 deriving Inhabited
abbrev TLook:=RId→Option TObj
abbrev zsa7:=List (RId×TObj)
abbrev TOut:=AVal×List (RId×TObj)
abbrev Orc:=FuncId→List AVal→List TObj→Option (AVal×List TObj)
def Cell.dat:Cell→Dat
 |.nil=>.sl []
 |.d l=>.sl l
 |.own _ _ _ l=>.sl l
def Cell.fresh:Cell→Bool
 |.nil=>true
 |.d _=>true
 |.own f _ _ _=>f
def Cell.freeze:Cell→Cell
 |.nil=>.nil
 |.d l=>.d l
 |.own f _ sz l=>.own f true sz l
def Cell.isOwn:Cell→Bool
 |.nil=>false
 |.d _=>false
 |.own _ _ _ _=>true
def cellA (r:RId) (pv i:Nat):Cell→AVal
 |.nil=>.nils
 |.d l=>.dat (.sl l)
 |.own true _ sz l=>.rsl (r,i+1,0) pv sz 0 l.length
 |.own false _ _ _=>.junk
def rowsA (r:RId) (pv:Nat):Nat→List Cell→List (List AVal)
 |_,[]=>[]
 |i,c::cs=>[cellA r pv i c]::rowsA r pv (i+1) cs
def entsA (r:RId) (pv:Nat):Nat→List (Dat×Cell)→List (Dat×AVal)
 |_,[]=>[]
 |i,e::es=>(e.1,cellA r pv i e.2)::entsA r pv (i+1) es
def kidO (pv:Nat):Option Cell→Obj
 |some (.own _ fz sz l)=>.arr sz pv fz l
 |_=>.arr 1 pv true []
def flatR (r:RId) (i j:Nat):TObj→Option Obj
 |.plain o=>if i=0∧j=0 then some o else none
 |.fam ver pv fz cells=>
  if j=0 then
   match i with
   |0=>some (if fz then .arr 1 ver true (cells.map Cell.dat) else .rarr 1 ver (rowsA r pv 0 cells))
   |i+1=>some (kidO pv cells[i]?)
  else none
 |.mapf pv es=>
  if j=0 then
   match i with
   |0=>some (.blk (.map (entsA r pv 0 es)))
   |i+1=>some (kidO pv (es[i]?.map (·.2)))
  else none
def flat (T:TLook):Look:=fun id=>
 match T id.1 with
 |some o=>flatR id.1 id.2.1 id.2.2 o
 |none=>none
def gT:zsa7→RId→Option TObj
 |[],_=>none
 |(i',o)::r,i=>if i'=i then some o else gT r i
def pT:zsa7→RId→TObj→zsa7
 |[],i,o=>[(i,o)]
 |(i',o')::r,i,o=>if i'=i then (i,o)::r else (i',o')::pT r i o
def pTs (s:zsa7):List (RId×TObj)→zsa7
 |[]=>s
 |(i,o)::r=>pTs (pT s i o) r
def updT (T:TLook):List (RId×TObj)→TLook
 |[]=>T
 |(i,o)::r=>updT (fun j=>if i=j then some o else T j) r
def AVal.rids (v:AVal):List RId:=v.ids.map (·.1)
def AVal.ridsL (l:List AVal):List RId:=(AVal.idsL l).map (·.1)
def TObj.rids:TObj→List RId
 |.plain o=>o.ids.map (·.1)
 |.fam _ _ _ _=>[]
 |.mapf _ _=>[]
def liftF (f:RId→RId):Id→Id:=fun i=>(f i.1,i.2)
def AVal.tren (f:RId→RId) (v:AVal):AVal:=v.ren (liftF f)
def AVal.trenL (f:RId→RId) (l:List AVal):List AVal:=AVal.renL (liftF f) l
def TObj.tren (f:RId→RId):TObj→TObj
 |.plain o=>.plain (o.ren (liftF f))
 |.fam ver pv fz cells=>.fam ver pv fz cells
 |.mapf pv es=>.mapf pv es
def collect (T:TLook):Nat→List RId→List RId→Option (List RId)
 |0,_,_=>none
 |_+1,[],done=>some done
 |n+1,id::todo,done=>
  if id∈done then collect T n todo done else
   match T id with
   |none=>none
   |some o=>collect T n (todo++o.rids) (done++[id])
def zyb7:List RId→RId→Nat
 |[],_=>0
 |i'::r,i=>if i'=i then 0 else zyb7 r i+1
def toPos (order:List RId) (i:RId):RId:=(0,zyb7 order i)
def zdb7 (order:List RId) (site:Nat) (i:RId):RId:=
 match order[i.2]? with
 |some j=>j
 |none=>(site+1,i.2-order.length)
def gather (T:TLook):List RId→Option (List TObj)
 |[]=>some []
 |id::r=>
  match T id,gather T r with
  |some o,some os=>some (o::os)
  |_,_=>none
def decT (T:TLook):AVal→Option (Dat×List (RId×TObj))
 |.dat d=>some (d,[])
 |.nils=>some (.sl [],[])
 |.emp _=>some (.sl [],[])
 |.cap0=>some (.sl [],[])
 |.fsl l=>some (.sl l,[])
 |.rsl (r,i,j) ver sz off len=>
  match T r with
  |some (.plain (.arr sz' ver' fz es))=>
   if i=0∧j=0∧ver=ver'∧sz=sz'∧off+len≤es.length then some (.sl ((es.drop off).take len),if fz then [] else [(r,.plain (.arr sz' ver' true es))]) else none
  |some (.fam ver' pv fz cells)=>
   if j=0 then
    match i with
    |0=>if ver=ver'∧sz=1∧off+len≤cells.length∧cells.all Cell.fresh=true then some (.sl (((cells.map Cell.dat).drop off).take len),if fz then [] else [(r,.fam ver' pv true (cells.map Cell.freeze))]) else none
    |i+1=>match cells[i]? with
     |some (.own fr fz' sz' l)=>if ver=pv∧sz=sz'∧off+len≤l.length∧fz=false then some (.sl ((l.drop off).take len),if fz' then [] else [(r,.fam ver' pv fz (cells.set i (.own fr true sz' l)))]) else none
     |_=>none
   else none
  |_=>none
 |_=>none
def decLsT (T:TLook):List AVal→Option (List Dat×List (RId×TObj))
 |[]=>some ([],[])
 |v::r=>
  match decT T v with
  |none=>none
  |some (d,us)=>
   match decLsT (updT T us) r with
   |none=>none
   |some (ds,us')=>if d.isAgg then none else some (d::ds,us++us')
def decV (T:TLook):AVal→Option (Dat×List (RId×TObj))
 |.agg l=>match decLsT T l with
  |some (ds,us)=>some (.agg ds,us)
  |none=>none
 |v=>decT T v
def argsT (T:TLook):List (AVal×Bool)→Option (List AVal×List (RId×TObj))
 |[]=>some ([],[])
 |(v,true)::r=>
  match argsT T r with
  |none=>none
  |some (vs,us)=>some (v::vs,us)
 |(v,false)::r=>
  match decV T v with
  |none=>none
  |some (d,us)=>
   match argsT (updT T us) r with
   |none=>none
   |some (vs,us')=>some (.dat d::vs,us++us')
def lift1 (T:TLook) (id:Id) (o:Obj):Option (RId×TObj):=
 match T id.1 with
 |some (.fam ver pv fz cells)=>
  match id.2,o with
  |(i+1,0),.arr sz ver' fz' l=>
   match cells[i]? with
   |some (.own fr _ sz' l')=>if fz=false∧ver'=pv∧sz=sz'∧l.length=l'.length then some (id.1,.fam ver pv fz (cells.set i (.own fr fz' sz l))) else none
   |_=>none
  |_,_=>none
 |some (.mapf _ _)=>none
 |_=>if id.2=(0,0) then some (id.1,.plain o) else none
def liftX (T:TLook):List (Id×Obj)→Option (List (RId×TObj))
 |[]=>some []
 |(id,o)::r=>
  match lift1 T id o with
  |none=>none
  |some u=>
   match liftX (updT T [u]) r with
   |none=>none
   |some us=>some (u::us)
def grown (T:TLook) (id:Id) (o:Obj):Option (RId×TObj):=
 match id.2,o,T id.1 with
 |(i+1,0),.arr sz ver' fz' l,some (.fam ver pv false cells)=>
  match cells[i]? with
  |some (.own _ _ sz' _)=>if ver'=pv+1∧sz=sz' then some (id.1,.fam ver (pv+1) false (cells.set i (.own false fz' sz l))) else none
  |_=>none
 |(i+1,0),.arr sz ver' fz' l,some (.mapf pv es)=>
  match es[i]? with
  |some (kd,.own _ _ sz' _)=>if ver'=pv+1∧sz=sz' then some (id.1,.mapf (pv+1) (es.set i (kd,.own false fz' sz l))) else none
  |_=>none
 |_,_,_=>none
def lift (T:TLook) (upd:List (Id×Obj)):Option (List (RId×TObj)):=
 match upd with
 |[]=>some []
 |(id,o)::[]=>match grown T id o with
  |some u=>some [u]
  |none=>liftX T [(id,o)]
 |upd=>liftX T upd
def cellIn (T:TLook) (r:RId) (pv:Nat) (old:Option Cell) (i:Nat) (mv:Bool) (v:AVal):Option (Cell×Bool×List (RId×TObj)):=
 match v with
 |.rsl (r2,i2,j2) ver sz off len=>
  if r2=r then
   if i2=i+1∧j2=0∧ver=pv∧off=0 then
    match old with
    |some (.own _ fz sz' l)=>if sz=sz'∧len=l.length then some (.own true fz sz l,false,[]) else none
    |_=>none
   else none
  else if mv then
   match T r2 with
   |some (.plain (.arr sz' ver' false l))=>
    if i2=0∧j2=0∧off=0∧ver=ver'∧sz=sz'∧len=l.length then some (.own true false sz l,true,[(r2,.plain (.arr sz (ver+1) true []))]) else none
   |_=>none
  else data
 |_=>data
 where
 data:Option (Cell×Bool×List (RId×TObj)):=
  match decT T v with
  |some (.sl l,us)=>if us.any (fun u=>u.1==r) then none else some (.d l,(match old with|some (.own _ _ _ _)=>true|_=>false),us)
  |_=>none
def pvN (T:TLook) (r:RId):Nat:=
 match T r with
 |some (.fam _ pv _ _)=>pv+1
 |some (.mapf pv _)=>pv+1
 |_=>0
def stF (T:TLook) (mv:Bool) (r:RId) (ver pv i:Nat) (cells:List Cell) (v:AVal):Option TOut:=
 match cells[i]? with
 |none=>none
 |some old=>
  match cellIn T r pv (some old) i mv v with
  |none=>none
  |some (c,b,us)=>some (.tup [],us++[(r,.fam ver (if b then pv+1 else pv) false (cells.set i c))])
def mupF (T:TLook) (ag:Bool) (sh:List Sh) (r:RId) (pv:Nat) (es:List (Dat×Cell)) (k v:AVal):Option TOut:=
 match keyE ag sh k with
 |none=>none
 |some kd=>
  match findE ag sh kd es with
  |some (some i)=>
   match es[i]? with
   |none=>none
   |some old=>
    match cellIn T r pv (some old.2) i true v with
    |none=>none
    |some (c,b,us)=>some (.tup [],us++[(r,.mapf (if b then pv+1 else pv) (es.set i (kd,c)))])
  |some none=>
   match cellIn T r pv none es.length true v with
   |none=>none
   |some (c,b,us)=>some (.tup [],us++[(r,.mapf (if b then pv+1 else pv) (es++[(kd,c)]))])
  |none=>none
def appF (site bytes:Nat) (x y:AVal) (T:TLook):Option TOut:=
 match y with
 |.lits 1 1 [w]=>
  match x with
  |.rsl (r,0,0) ver 1 0 len=>
   match T r with
   |some (.fam ver' pv false cells)=>
    if ver=ver'∧len=cells.length∧(len+1)*(bytes+1)≤room then
     match cellIn T r pv none cells.length true w with
     |some (c,_,us)=>some (.rsl (r,0,0) (ver+1) 1 0 (len+1),us++[(r,.fam (ver+1) (pv+1) false (cells++[c]))])
     |none=>none
    else none
   |_=>none
  |.nils=>
   match zwa7 (flat T) (nid site) with
   |some nv=>
    if bytes+1≤room then
     match cellIn T (site+1,0) (pvN T (site+1,0)) none 0 true w with
     |some (c,_,us)=>some (.rsl (nid site) nv 1 0 1,us++[((site+1,0),.fam nv (pvN T (site+1,0)) false [c])])
     |none=>none
    else none
   |none=>none
  |.cap0=>
   match zwa7 (flat T) (nid site) with
   |some nv=>
    if bytes+1≤room then
     match cellIn T (site+1,0) (pvN T (site+1,0)) none 0 true w with
     |some (c,_,us)=>some (.rsl (nid site) nv 1 0 1,us++[((site+1,0),.fam nv (pvN T (site+1,0)) false [c])])
     |none=>none
    else none
   |none=>none
  |_=>none
 |_=>none
def callE (K:Orc) (site:Nat) (f:FuncId) (args:List (AVal×Bool)) (scalar:Bool) (T:TLook):Option TOut:=
 match argsT T args with
 |none=>none
 |some (vs,us)=>
  match collect (updT T us) 64 (AVal.ridsL vs) []with
  |none=>none
  |some order=>
   match gather (updT T us) order with
   |none=>none
   |some os=>
    match K f (AVal.trenL (toPos order) vs) (os.map (TObj.tren (toPos order))) with
    |none=>none
    |some (v,os')=>
     if scalar&&order.isEmpty then (if os'.isEmpty&&scalV v then some (v,[]) else none) else
     if os'.length<order.length then none else
     if (List.range (os'.length-order.length)).any (fun j=>(updT T us (site+1,j)).isSome) then none else
     some (v.tren (zdb7 order site),
      us++(((List.range os'.length).map fun j=>zdb7 order site (0,j)).zip (os'.map (TObj.tren (zdb7 order site)))))
def flatE (site:Nat) (k:AK) (g:Nat→AVal) (T:TLook):Option TOut:=
 match opE site k g (flat T) with
 |none=>none
 |some (v,upd)=>
  match lift T upd with
  |none=>none
  |some us=>some (v,us)
def YID:FuncId:=1000000000
def opT (K:Orc) (site:Nat) (k:AK) (g:Nat→AVal) (T:TLook):Option TOut:=
 match k with
 |.call f args scalar=>callE K site f (args.map fun p=>(evX g p.1,p.2)) scalar T
 |.callV x args scalar=>
  match evX g x with
  |.fn f caps=>if BIGF≤f then (if f-BIGF=YID then none else callE K site (f-BIGF) ((caps.map fun v=>(v,true))++args.map fun p=>(evX g p.1,p.2)) scalar T) else if f=YID then none else callE K site f ((args.map fun p=>(evX g p.1,p.2))++caps.map fun v=>(v,true)) scalar T
  |.bref true id=>callE K site YID ((args.map fun p=>(evX g p.1,p.2))++[(.bref true id,true)]) false T
  |_=>none
 |.mvNil .f sz=>
  match opE site (.mvNil .r sz) g (flat T) with
  |some (.rsl _ nv _ _ _,_)=>if sz=1 then some (.rsl (nid site) nv 1 0 0,[((site+1,0),.fam nv (pvN T (site+1,0)) false [])]) else none
  |_=>none
 |.mk .f sz bytes [.nils] l c=>
  match opE site (.mk .r sz bytes [.nils] l c) g (flat T) with
  |some (.rsl _ nv _ _ len,_)=>if sz=1 then some (.rsl (nid site) nv 1 0 len,[((site+1,0),.fam nv (pvN T (site+1,0)) false (List.replicate len .nil))]) else none
  |_=>none
 |.app .f 1 bytes x y=>appF site bytes (evX g x) (evX g y) T
 |.mkMap true=>
  match opE site (.mkMap true) g (flat T) with
  |some (v,_)=>some (v,[((site+1,0),.mapf 0 [])])
  |none=>none
 |.mup ag sh m k v=>
  match evX g m with
  |.bref false (r,0,0)=>
   match T r with
   |some (.mapf pv es)=>mupF T ag sh r pv es (evX g k) (evX g v)
   |_=>flatE site (.mup ag sh m k v) g T
  |_=>flatE site (.mup ag sh m k v) g T
 |.st mv n a v=>
  match evX g a with
  |.eref (r,0,0) ver i 0=>
   match T r with
   |some (.fam ver' pv false cells)=>if n=1∧ver=ver' then stF T mv r ver pv i cells (evX g v) else none
   |_=>flatE site (.st mv n a v) g T
  |_=>flatE site (.st mv n a v) g T
 |k=>flatE site k g T
def touch (k:AK) (g:Nat→AVal):List Id:=
 match k with
 |.b2s x=>(evX g x).ids
 |.bldS _ _ xs=>AVal.idsL (xs.map (evX g))
 |.ld _ _ a=>(evX g a).ids
 |.st _ _ a v=>(evX g a).ids++(evX g v).ids
 |.app _ _ _ x y=>(evX g x).ids++(evX g y).ids
 |.cpy _ x y=>(evX g x).ids++(evX g y).ids
 |.clr _ x=>(evX g x).ids
 |.slc3 _ x _ _ _=>(evX g x).ids
 |.lkp _ _ _ _ m _=>(evX g m).ids
 |.mup _ _ m _ v=>(evX g m).ids++(evX g v).ids
 |.lenM m=>(evX g m).ids
 |_=>[]
def touchC (args:List (AVal×Bool)) (T:TLook):List RId:=
 AVal.ridsL (args.map (·.1)) ++
  (match argsT T args with
   |some (vs,us)=>(collect (updT T us) 64 (AVal.ridsL vs) []).getD []
   |none=>[])
def zie7 (k:AK) (g:Nat→AVal) (T:TLook):List RId:=
 match k with
 |.call _ args _=>touchC (args.map fun p=>(evX g p.1,p.2)) T
 |.callV x args _=>
  match evX g x with
  |.fn f caps=>if BIGF≤f then touchC ((caps.map fun v=>(v,true))++args.map fun p=>(evX g p.1,p.2)) T else touchC ((args.map fun p=>(evX g p.1,p.2))++caps.map fun v=>(v,true)) T
  |.bref true id=>touchC ((args.map fun p=>(evX g p.1,p.2))++[(.bref true id,true)]) T
  |_=>[]
 |k=>(touch k g).map (·.1)
structure St where
 env:Env
 objs:zsa7
def aoE (K:Orc) (o:AO) (g:Nat→AVal) (T:TLook):Option TOut:=
 match o.guard with
 |none=>opT K (o.dst.getD 0) o.k g T
 |some (t,want)=>
  match g t with
  |.dat (.bool b)=>if b=want then opT K (o.dst.getD 0) o.k g T else some (.tup [],[])
  |.tup []=>some (.tup [],[])
  |_=>none
def putE (env:Env):Option Nat→AVal→Env
 |some d,v=>(d,v)::env
 |none,_=>env
mutual
def Dat.eqv:Dat→Dat→Bool
 |.int k n,d=>(match d with|.int k' n'=>decide (k=k')&&decide (n=n')|_=>false)
 |.bool a,d=>(match d with|.bool b=>decide (a=b)|_=>false)
 |.str a,d=>(match d with|.str b=>decide (a=b)|_=>false)
 |.sl a,d=>(match d with|.sl b=>Dat.eqvL a b|_=>false)
 |.agg a,d=>(match d with|.agg b=>Dat.eqvL a b|_=>false)
def Dat.eqvL:List Dat→List Dat→Bool
 |[],l=>l.isEmpty
 |a::r,l=>(match l with|b::s=>Dat.eqv a b&&Dat.eqvL r s|[]=>false)
end
mutual
theorem Dat.eqv_eq:∀(a b:Dat),Dat.eqv a b=true→a=b
 |.int k n,b,h=>by cases b<;>simp_all [Dat.eqv]
 |.bool a,b,h=>by cases b<;>simp_all [Dat.eqv]
 |.str a,b,h=>by cases b<;>simp_all [Dat.eqv]
 |.sl a,b,h=>by
  cases b<;>simp only[Dat.eqv,Bool.false_eq_true]at h;rw[Dat.eqvL_eq a _ h]
 |.agg a,b,h=>by
  cases b<;>simp only[Dat.eqv,Bool.false_eq_true]at h;rw[Dat.eqvL_eq a _ h]
theorem Dat.eqvL_eq:∀(a b:List Dat),Dat.eqvL a b=true→a=b
 |[],b,h=>by cases b<;>simp_all [Dat.eqvL]
 |a::r,b,h=>by
  cases b with
  |nil=>simp[Dat.eqvL]at h
  |cons b s=>
   simp only[Dat.eqvL,Bool.and_eq_true]at h;rw[Dat.eqv_eq a b h.1,Dat.eqvL_eq r s h.2]
end
def AVal.same:AVal→AVal→Bool
 |.dat a,.dat b=>Dat.eqv a b
 |.nils,.nils=>true
 |.emp a,.emp b=>decide (a=b)
 |.nilp,.nilp=>true
 |.ref i a,.ref j b=>decide (i=j)&&decide (a=b)
 |.eref i a b c,.eref j x y z=>decide (i=j)&&decide (a=x)&&decide (b=y)&&decide (c=z)
 |.rsl i a b c d,.rsl j x y z w=>decide (i=j)&&decide (a=x)&&decide (b=y)&&decide (c=z)&&decide (d=w)
 |.fp a,.fp b=>Dat.eqvL a b
 |.bref a i,.bref b j=>decide (a=b)&&decide (i=j)
 |_,_=>false
theorem AVal.same_eq (a b:AVal) (h:AVal.same a b=true):a=b:=by
 unfold AVal.same at h;split at h<;>simp_all<;>first|exact Dat.eqv_eq _ _ h|exact Dat.eqvL_eq _ _ h
def sameAll {α:Type} (f:α→α→Bool):List α→List α→Bool
 |[],l=>l.isEmpty
 |a::r,l=>(match l with|b::s=>f a b&&sameAll f r s|[]=>false)
theorem sameAll_eq {α:Type} {f:α→α→Bool} (hf:∀a b,f a b=true→a=b):∀(a b:List α),sameAll f a b=true→a=b
 |[],b,h=>by cases b<;>simp_all [sameAll]
 |a::r,b,h=>by
  cases b with
  |nil=>simp[sameAll]at h
  |cons b s=>
   simp only[sameAll,Bool.and_eq_true]at h;rw[hf a b h.1,sameAll_eq hf r s h.2]
def sameE (a b:Dat×AVal):Bool:=Dat.eqv a.1 b.1&&AVal.same a.2 b.2
theorem sameE_eq (a b:Dat×AVal) (h:sameE a b=true):a=b:=by
 simp only[sameE,Bool.and_eq_true]at h;exact Prod.ext (Dat.eqv_eq _ _ h.1) (AVal.same_eq _ _ h.2)
def Obj.same:Obj→Obj→Bool
 |.box a,.box b=>sameAll AVal.same a b
 |.arr a b c l,.arr x y z m=>decide (a=x)&&decide (b=y)&&decide (c=z)&&Dat.eqvL l m
 |.rarr a b l,.rarr x y m=>decide (a=x)&&decide (b=y)&&sameAll (sameAll AVal.same) l m
 |.blk (.map a),.blk (.map b)=>sameAll sameE a b
 |_,_=>false
theorem Obj.same_eq (a b:Obj) (h:Obj.same a b=true):a=b:=by
 unfold Obj.same at h;split at h
 ·rw[sameAll_eq AVal.same_eq _ _ h]
 ·simp only[Bool.and_eq_true,decide_eq_true_eq]at h;obtain⟨⟨⟨rfl,rfl⟩,rfl⟩,h⟩:=h;rw[Dat.eqvL_eq _ _ h]
 ·simp only[Bool.and_eq_true,decide_eq_true_eq]at h;obtain⟨⟨rfl,rfl⟩,h⟩:=h;rw[sameAll_eq (sameAll_eq AVal.same_eq) _ _ h]
 ·rw[sameAll_eq sameE_eq _ _ h]
 ·cases h
def Cell.same:Cell→Cell→Bool
 |.nil,.nil=>true
 |.d a,.d b=>Dat.eqvL a b
 |.own a b c l,.own x y z m=>decide (a=x)&&decide (b=y)&&decide (c=z)&&Dat.eqvL l m
 |_,_=>false
theorem Cell.same_eq (a b:Cell) (h:Cell.same a b=true):a=b:=by
 unfold Cell.same at h;split at h
 ·rfl
 ·rw[Dat.eqvL_eq _ _ h]
 ·simp only[Bool.and_eq_true,decide_eq_true_eq]at h;obtain⟨⟨⟨rfl,rfl⟩,rfl⟩,h⟩:=h;rw[Dat.eqvL_eq _ _ h]
 ·cases h
def sameC (a b:Dat×Cell):Bool:=Dat.eqv a.1 b.1&&Cell.same a.2 b.2
theorem sameC_eq (a b:Dat×Cell) (h:sameC a b=true):a=b:=by
 simp only[sameC,Bool.and_eq_true]at h;exact Prod.ext (Dat.eqv_eq _ _ h.1) (Cell.same_eq _ _ h.2)
def TObj.same:TObj→TObj→Bool
 |.plain a,.plain b=>Obj.same a b
 |.fam a b c l,.fam x y z m=>decide (a=x)&&decide (b=y)&&decide (c=z)&&sameAll Cell.same l m
 |.mapf a l,.mapf x m=>decide (a=x)&&sameAll sameC l m
 |_,_=>false
theorem TObj.same_eq (a b:TObj) (h:TObj.same a b=true):a=b:=by
 unfold TObj.same at h;split at h
 ·rw[Obj.same_eq _ _ h]
 ·simp only[Bool.and_eq_true,decide_eq_true_eq]at h;obtain⟨⟨⟨rfl,rfl⟩,rfl⟩,h⟩:=h;rw[sameAll_eq Cell.same_eq _ _ h]
 ·simp only[Bool.and_eq_true,decide_eq_true_eq]at h;obtain⟨rfl,h⟩:=h;rw[sameAll_eq sameC_eq _ _ h]
 ·cases h
def sameAt (T:TLook) (upd:List (RId×TObj)) (r:RId):Bool:=
 match T r,updT T upd r with
 |some a,some b=>TObj.same a b
 |_,_=>false
theorem sameAt_eq {T:TLook} {upd:List (RId×TObj)} {r:RId} (h:sameAt T upd r=true):updT T upd r=T r:=by
 unfold sameAt at h;split at h
 ·rename_i a b ha hb;rw[ha,hb,TObj.same_eq _ _ h]
 ·cases h
def slim (T:TLook) (upd:List (RId×TObj)):List (RId×TObj):=upd.filter fun u=>!sameAt T upd u.1
structure LogE where
 seen:List RId
 upd:List RId
 chg:List RId
 deriving Inhabited
abbrev Log:=List (Nat×LogE)
def chgOf (T:TLook) (upd:List (RId×TObj)):List RId:=(slim T upd).map (·.1)
def logOf (o:AO) (i:Nat) (g:Nat→AVal) (T:TLook) (out:TOut):Log:=
 if o.lg then [(i,⟨zie7 o.k g T,out.2.map (·.1),chgOf T out.2⟩)] else []
def zhd7 (K:Orc):Nat→List AO→St→Log→Option (St×Log)
 |_,[],s,lg=>some (s,lg)
 |i,o::r,s,lg=>
  match aoE K o (gE s.env) (gT s.objs) with
  |none=>none
  |some out=>zhd7 K (i+1) r ⟨putE s.env o.dst out.1,pTs s.objs out.2⟩ (lg++logOf o i (gE s.env) (gT s.objs) out)
def logAt (lg:Log) (i:Nat):LogE:=
 match lg with
 |[]=>⟨[],[],[]⟩
 |(j,a)::r=>if j=i then a else logAt r i
def meets (a b:List RId):Bool:=a.any fun i=>b.contains i
def apart (a b:LogE):Bool:=!(meets a.upd b.seen)&&!(meets a.upd b.upd)&&!(meets a.seen b.upd)
def zyc7 (a b:LogE):Bool:=!(meets a.chg b.seen)&&!(meets a.chg b.upd)&&!(meets a.seen b.chg)&&!(meets a.upd b.chg)
def pairK (a b:LogE):Bool→Bool
 |true=>true
 |false=>zyc7 a b
def pairOk (lg:Log) (p:Nat×Nat):Bool:=pairK (logAt lg p.1) (logAt lg p.2) (apart (logAt lg p.1) (logAt lg p.2))
def restrict (live:List Nat) (env:Env):Env:=live.map fun t=>(t,gE env t)
def nameL (t:Nat):Nat→List RId→List (RId×RId)→List (RId×RId)
 |_,[],done=>done
 |k,i::r,done=>if i.1==0||done.any (fun p=>p.1==i) then nameL t (k+1) r done else nameL t (k+1) r (done++[(i,(t+1,k))])
def namesE (T:TLook) (g:Nat→AVal):List Nat→List (RId×RId)→Option (List (RId×RId))
 |[],done=>some done
 |t::r,done=>match collect T 64 (g t).rids []with
  |none=>none
  |some l=>namesE T g r (nameL t 0 l done)
def lookN:List (RId×RId)→RId→RId
 |[],i=>i
 |(i',j)::r,i=>if i'=i then j else lookN r i
def dropE (names:List Nat) (s:St):Option St:=
 match names with
 |[]=>some s
 |_=>match namesE (gT s.objs) (gE s.env) names []with
  |none=>none
  |some nm=>match collect (gT s.objs) 64 ((s.objs.map (·.1)).filter (fun i=>i.1==0)++AVal.ridsL (s.env.map (·.2))) []with
   |none=>none
   |some order=>match gather (gT s.objs) order with
    |none=>none
    |some os=>
     if (order.map (lookN nm)).Nodup∧order.all (fun i=>i.1 !=0||lookN nm i==i) then
      some ⟨s.env.map fun p=>(p.1,p.2.tren (lookN nm)),(order.map (lookN nm)).zip (os.map (TObj.tren (lookN nm)))⟩
     else none
def runReg (K:Orc) (r:AReg) (s:St):Option St:=
 match dropE r.drop ⟨restrict r.live s.env,s.objs⟩ with
 |none=>none
 |some s=>
  match zhd7 K 0 r.ops s []with
  |none=>none
  |some (s,lg)=>if r.pairs.all (pairOk lg) then some s else none
def iter (body:St→Option (AEx×St)):Nat→St→Option (AEx×St)
 |0,_=>none
 |n+1,s=>
  match body s with
  |none=>none
  |some (.normal,s')=>iter body n s'
  |some r=>some r
open Classical in
noncomputable def zga7 (body:St→Option (AEx×St)) (s:St):Option (AEx×St):=
 if h:∃r,∃n,iter body n s=some r then some (Classical.choose h) else none
def rfE (K:Orc) (x:AX) (k site:Nat) (caps:List Nat) (s:St):Option (AEx×St):=
 match evX (gE s.env) x with
 |.fn f vs=>
  if f=YID∨BIGF≤f then none else
  match gT s.objs (site+1,0) with
  |some _=>none
  |none=>
   match callE K (site+1) f ((.bref true ((site+1,0),0,0),true)::vs.map fun v=>(v,true)) false
     (gT (pT s.objs (site+1,0) (.plain (.blk (.loop k .ready (caps.map fun t=>(t,gE s.env t))))))) with
   |none=>none
   |some (_,us)=>
    match gT (pTs (pT s.objs (site+1,0) (.plain (.blk (.loop k .ready (caps.map fun t=>(t,gE s.env t)))))) us) (site+1,0) with
    |some (.plain (.blk (.loop _ st _)))=>
     match st.out with
     |some x=>some (x,⟨s.env,pT (pTs (pT s.objs (site+1,0) (.plain (.blk (.loop k .ready (caps.map fun t=>(t,gE s.env t)))))) us) (site+1,0) (.plain (.blk .dead))⟩)
     |none=>none
    |_=>none
 |_=>none
noncomputable def exec (K:Orc):AC→St→Option (AEx×St)
 |.skip,s=>some (.normal,s)
 |.reg r,s=>match runReg K r s with
  |some s=>some (.normal,s)
  |none=>none
 |.seq a b,s=>
  match exec K a s with
  |some (.normal,s')=>exec K b s'
  |r=>r
 |.cond x a b,s=>
  match evX (gE s.env) x with
  |.dat (.bool t)=>if t then exec K a s else exec K b s
  |_=>none
 |.block id c,s=>
  match exec K c s with
  |some (.exit id',s')=>if id'=id then some (.normal,s') else some (.exit id',s')
  |r=>r
 |.loop c,s=>zga7 (exec K c) s
 |.exit id,s=>some (.exit id,s)
 |.ret,s=>some (.ret,s)
 |.rf x k site caps,s=>rfE K x k site caps s
def resE (T:TLook) (keep:Bool) (v:AVal):Option (AVal×List (RId×TObj)):=
 match v with
 |.ref id off=>some (.ref id off,[])
 |.nilp=>some (.nilp,[])
 |.fn f l=>some (.fn f l,[])
 |.bref b id=>some (.bref b id,[])
 |.nils=>if keep then some (.nils,[]) else some (.dat (.sl []),[])
 |.cap0=>if keep then some (.cap0,[]) else some (.dat (.sl []),[])
 |.rsl id ver sz off len=>if keep then some (.rsl id ver sz off len,[]) else (decV T (.rsl id ver sz off len)).map fun p=>(.dat p.1,p.2)
 |.agg l=>if keep then some (.agg l,[]) else (decV T (.agg l)).map fun p=>(.dat p.1,p.2)
 |v=>(decV T v).map fun p=>(.dat p.1,p.2)
def ressE (T:TLook) (keep:Bool):List AVal→Option (List AVal×List (RId×TObj))
 |[]=>some ([],[])
 |v::r=>
  match resE T keep v with
  |none=>none
  |some (d,us)=>
   match ressE (updT T us) keep r with
   |none=>none
   |some (ds,us')=>some (d::ds,us++us')
def resV (s:St):AR→Option AVal
 |.t n=>some (gE s.env n)
 |.cell n size agg=>loadE (flat (gT s.objs)) size agg (gE s.env n)
def resVs (s:St):List AR→Option (List AVal)
 |[]=>some []
 |x::r=>
  match resV s x,resVs s r with
  |some v,some vs=>some (v::vs)
  |_,_=>none
def retE (fn:AFun) (m:Nat) (s:St):Option (AVal×List TObj):=
 match resVs s fn.res with
 |none=>none
 |some rs=>
  match ressE (gT s.objs) fn.keep rs with
  |none=>none
  |some (vs,us)=>
   let objs:=pTs s.objs us
   match collect (gT objs) 64 ((List.range m).map (fun j=>((0,j):RId))++AVal.ridsL vs) []with
   |none=>none
   |some order=>
    match gather (gT objs) order with
    |none=>none
    |some os=>
     let vs:=AVal.trenL (toPos order) vs
     some (match vs with|[v]=>v|_=>.tup vs,os.map (TObj.tren (toPos order)))
def enter (args:List AVal) (os:List TObj):St:=
 ⟨args.zipIdx.map fun p=>(p.2,p.1),os.zipIdx.map fun p=>((0,p.2),p.1)⟩
noncomputable def zed7 (K:Orc) (fn:AFun) (args:List AVal) (os:List TObj):Option (AVal×List TObj):=
 if args.length=fn.np then
  match exec K fn.code (enter args os) with
  |some (.normal,s)=>retE fn os.length s
  |some (.ret,s)=>retE fn os.length s
  |_=>none
 else none
def isEmp:Option AVal→Bool
 |some (.dat (.sl []))=>true
 |some (.rsl _ _ _ _ 0)=>true
 |_=>false
open Classical in
noncomputable def joinR (r r':AVal×List TObj):Option (AVal×List TObj):=
 match r,r' with
 |(.nils,a),(.cap0,b)=>if a=b then some (.cap0,a) else none
 |(.cap0,a),(.nils,b)=>if a=b then some (.cap0,a) else none
 |_,_=>none
open Classical in
noncomputable def runS (K:Orc) (fn:AFun) (args:List AVal) (os:List TObj):Option (AVal×List TObj):=
 match fn.split with
 |none=>zed7 K fn args os
 |some i=>if isEmp args[i]?=true then
   match zed7 K fn (args.set i (.emp true)) os,zed7 K fn (args.set i (.emp false)) os with
   |some r,some r'=>if r=r' then some r else joinR r r'
   |_,_=>none
  else zed7 K fn args os
structure Tab where
 fn:FuncId→Option AFun
 law:Orc
 lp:Nat→Option ALoop:=fun _=>none
def stOf:AEx→LSt
 |.normal=>.ready
 |e=>.done e
def yieldG (ex:AC→St→Option (AEx×St)) (lps:Nat→Option ALoop) (args:List AVal) (os:List TObj):Option (AVal×List TObj):=
 match args.getLast? with
 |some (.bref true ((0,j),0,0))=>
  match os[j]? with
  |some (.plain (.blk (.loop k .ready env)))=>
   match lps k with
   |some lp=>
    if args.length=lp.ps.length+1 then
     match ex lp.assign ⟨lp.ps.zip args++env,(enter [] os).objs⟩ with
     |some (.normal,s1)=>
      match gT s1.objs (0,j) with
      |some (.plain (.blk (.loop k1 .ready env1)))=>
       match ex lp.body ⟨s1.env,pT s1.objs (0,j) (.plain (.blk (.loop k1 .busy env1)))⟩ with
       |some (e,s2)=>
        match gT s2.objs (0,j) with
        |some (.plain (.blk (.loop k2 .busy env2)))=>
         retE ⟨0,[.t 0],false,.skip,none⟩ os.length ⟨[(0,.dat (.bool (stOf e==.ready)))],pT s2.objs (0,j) (.plain (.blk (.loop k2 (stOf e) env2)))⟩
        |_=>none
       |none=>none
      |_=>none
     |_=>none
    else none
   |none=>none
  |_=>none
 |_=>none
noncomputable def yieldE (K:Orc) (lps:Nat→Option ALoop) (args:List AVal) (os:List TObj):Option (AVal×List TObj):=yieldG (exec K) lps args os
noncomputable def Kn (tbl:Tab):Nat→Orc
 |0=>fun _ _ _=>none
 |n+1=>fun f args os=>if f=YID then yieldE (Kn tbl n) tbl.lp args os else match tbl.fn f with
  |some fn=>runS (Kn tbl n) fn args os
  |none=>tbl.law f args os
open Classical in
noncomputable def callT (tbl:Tab):Orc:=fun f args os=>
 if h:∃r,∃n,Kn tbl n f args os=some r then some (Classical.choose h) else none
end Go.Am
