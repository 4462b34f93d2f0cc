/- Parts of the proofs of the statement, joined and made short: RcMath RcEv ES ET EM EX VS. -/
set_option linter.unusedVariables false
set_option linter.unusedSimpArgs false
set_option linter.unusedSectionVars false
namespace Go.Rc
abbrev Clk:=List (Int×Int)
def cnt:Clk→Int→Int
 |[],_=>0
 |(a,c)::r,x=>if a=x then c else cnt r x
def ok (lim:Int):Option Int→Clk→Prop
 |_,[]=>True
 |lo,(a,c)::r=>(∀b,lo=some b→b<a)∧1≤c∧c≤lim∧ok lim (some a) r
def adv:Clk→Int→Clk
 |[],x=>[(x,1)]
 |(a,c)::r,x=>if a=x then (a,c+1)::r else if x<a then (x,1)::(a,c)::r else (a,c)::adv r x
def join:Clk→Clk→Clk
 |[],b=>b
 |(a,c)::r,[]=>(a,c)::r
 |(a,c)::r,(b,d)::s=>if a=b then (a,max c d)::join r s else if a<b then (a,c)::join r ((b,d)::s) else (b,d)::join ((a,c)::r) s
 termination_by a b=>a.length+b.length
section
variable (D:Nat→Nat→Bool)
def bef (i:Nat):Nat→Bool
 |k=>decide (i<k)&&(D i k||(List.range k).attach.any fun j=>D j.1 k&&bef i j.1)
 termination_by k=>k
 decreasing_by exact List.mem_range.1 j.2
def beq' (i k:Nat):Bool:=i==k||bef D i k
end
section
variable (D:Nat→Nat→Bool) (ag:Nat→Int)
def nb (k:Nat) (x:Int):Nat:=(List.range k).countP fun i=>bef D i k&&decide (ag i=x)
def refClk (k:Nat):Clk:=(List.range k).foldl (fun c i=>if bef D i k then adv c (ag i) else c) (adv [] (ag k))
variable (pr:Nat→List Nat)
def JoinsTo (clk:Nat→Clk) (n:Nat):Prop:=∀k,k<n→clk k=adv (((pr k).map clk).foldl join []) (ag k)
end
end Go.Rc

namespace Go.Rc
structure Evt where
 ag:Int
 idx:Int
 kind:Int
 obj:Int
 mux:Int
 ent:Int
 ord:Int
 rd:Int
 wr:Int
 deriving DecidableEq,Inhabited
abbrev isVal (n:Int):Prop:=-2147483648≤n∧n≤2147483647
def ordered (k:Int):Bool:=decide (k=1∨k=2∨k=3∨k=5∨k=6∨k=8)
def readsK (k:Int):Bool:=decide (k=1∨k=8∨k=5∨k=6)
def wroteK (k:Int):Bool:=decide (k=2∨k=3∨k=4∨k=5)
def objOk (e:Evt):Bool:=
 if e.kind=7 then decide (e.obj=0)
 else if e.kind=9∨e.kind=10∨e.kind=11 then decide (0≤e.obj∧e.obj<4)
 else if e.kind=12∨e.kind=13∨e.kind=14∨e.kind=15 then decide (0≤e.obj∧e.obj<4)
 else if e.kind=16∨e.kind=17 then decide (0≤e.obj)
 else decide (0≤e.obj∧e.obj<8)
def resOk (e:Evt):Bool:=
 if e.kind=11∨e.kind=14 then decide (0≤e.rd∧e.rd<2)
 else if e.kind=15 then decide (0≤e.rd)
 else decide (isVal e.rd)&&(readsK e.kind||decide (e.rd=0))
def entOk (e:Evt):Bool:=
 if e.kind=1∨e.kind=8 then decide (-1≤e.ent)
 else if e.kind=3∨e.kind=4 then decide (0≤e.ent)
 else decide (e.ent = -1)
def vld (e:Evt):Bool:=
 decide (1≤e.kind)&&decide (e.kind≤17)&&decide (e.ag<0↔e.kind=4)&&decide (0≤e.idx)&&objOk e&&resOk e&&entOk e &&
 decide (0≤e.ord)&&decide (e.ord≤2)&&(ordered e.kind||decide (e.ord=0))&&decide (isVal e.wr)&&(wroteK e.kind||decide (e.wr=0)) &&
 (if e.kind=12 then decide (0≤e.mux∧e.mux<4) else decide (e.mux = -1))
def lst (p:Nat→Bool):Nat→Option Nat
 |0=>none
 |n+1=>if p n then some n else lst p n
def thr (a:Int):Int:=if a<0 then -(a+1) else a
def flu (t:Int):Int:=if t<0 then 0 else -t-1
def Evt.reads (e:Evt):Bool:=readsK e.kind
def Evt.writes (e:Evt):Bool:=decide (e.kind=2∨e.kind=5∨e.kind=4)
def Evt.puts (e:Evt):Bool:=decide (e.kind=2∨e.kind=3∨e.kind=5)
section
variable (e:Nat→Evt)
def isBuf (a t:Int) (i:Nat):Bool:=(e i).kind==3&&(e i).ag==a&&(e i).ent==t
def bufd (n:Nat) (a t none:Int):Int:=match lst (isBuf e a t) n with
 |some i=>i
 |Option.none=>none
def isWr (o:Int) (i:Nat):Bool:=(e i).writes&&(e i).obj==o
def src (i:Nat):Int:=
 if (e i).reads=true then
  if 0≤(e i).ent then bufd e i (e i).ag (e i).ent (-1)
  else match lst (isWr e (e i).obj) i with
   |none => -1
   |some w=>if (e w).kind=4 then bufd e w (thr (e w).ag) (e w).ent w else w
 else -2
def chain:Nat→Int→List Nat
 |0,_=>[]
 |f+1,s=>if s<0 then [] else s.toNat::if (e s.toNat).kind=5 then chain f (src e s.toNat) else []
def acq (x:Evt):Bool:=x.reads&&decide (x.ord=2)
def rel (x:Evt):Bool:=x.puts&&decide (x.ord=2)
def rels (k:Nat):List Nat:=if acq (e k) then (chain e k (src e k)).filter fun i=>rel (e i) else []
def withR (i k:Nat):Bool:=rel (e i)&&acq (e k)&&(chain e k (src e k)).contains i
def mutexOf (x:Evt):Int:=if x.kind=9∨x.kind=10∨x.kind=11 then x.obj else x.mux
def condOf (x:Evt):Int:=if x.kind=12∨x.kind=13∨x.kind=14∨x.kind=15 then x.obj else -1
def direct (i k:Nat):Bool:=
 decide ((e i).ag=(e k).ag)||(decide (0≤mutexOf (e i))&&decide (mutexOf (e i)=mutexOf (e k)))||(decide (0≤condOf (e i))&&decide (condOf (e i)=condOf (e k))) ||
 (decide ((e i).kind=16)&&(decide ((e i).obj=(e k).ag)||(decide ((e k).kind=17)&&decide ((e i).obj=(e k).obj))))||(decide ((e k).kind=17)&&decide ((e k).obj=(e i).ag)) ||
 (decide ((e i).kind=3)&&decide ((e k).kind=4)&&decide ((e k).ag=flu (e i).ag)&&decide ((e i).ent=(e k).ent)) ||
 withR e i k
def objs (x:Evt):List (Int×Int):=
 if x.kind=9∨x.kind=10∨x.kind=11 then [(2,x.obj)]
 else if x.kind=12 then [(2,x.mux),(3,x.obj)]
 else if x.kind=13∨x.kind=14∨x.kind=15 then [(3,x.obj)]
 else []
def lastAg (a:Int) (k:Nat):Option Nat:=lst (fun i=>decide ((e i).ag=a)) k
def lastOb (o:Int×Int) (k:Nat):Option Nat:=lst (fun i=>(objs (e i)).contains o) k
def spawned (a:Int) (k:Nat):List Nat:=(List.range k).filter fun i=>decide ((e i).kind=16)&&decide ((e i).obj=a)
def buffs (x:Evt) (k:Nat):List Nat:=(List.range k).filter fun i=>isBuf e (thr x.ag) x.ent i
def special (k:Nat):List Nat:=
 if (e k).kind=17 then (lastAg e (e k).obj k).toList++spawned e (e k).obj k
 else if (e k).kind=4 then buffs e (e k) k
 else []
def preds (k:Nat):List Nat:=
 (lastAg e (e k).ag k).toList++((objs (e k)).flatMap fun o=>(lastOb e o k).toList)++spawned e (e k).ag k++special e k++rels e k
variable {e}
end
end Go.Rc

namespace Go.Ex
open Go.Rc
abbrev Str:=List UInt8
structure In where
 op:Int
 a:Int
 b:Int
 c:Int
 o:Int
 n:Int
 f:Int
 r:Int
 deriving DecidableEq,Inhabited
structure Pg where
 vs:List (Str×Int)
 ms:List Str
 cs:List Str
 fs:List (Str×List In)
 ts:List (Int×Int)
def okV (n:Int):Bool:=decide (-2147483648≤n)&&decide (n≤2147483647)
theorem okV_iff {n:Int}:okV n=true↔isVal n:=by simp[okV,isVal]
def fst0:List Int→Int
 |[]=>0
 |e::r=>if e=0 then fst0 r else e
def ut:List (List Bool):=
 let t:=true;let f:=false
 [[t,f,f,f,t,f,f],[t,t,f,f,f,f,f],[t,t,t,f,f,t,f],[f,f,f,f,t,f,f],[f,t,f,f,t,f,f],[f,t,f,f,f,f,f],[f,f,f,f,f,f,f],
  [t,f,f,t,f,f,t],[f,t,f,t,f,f,t],[t,t,f,t,f,f,t],[t,t,f,t,f,f,t],[t,t,t,t,f,f,t],[f,f,f,f,f,f,f],[t,t,f,t,f,t,t],
  [f,f,f,t,f,f,f],[f,f,f,t,f,f,f],[t,f,f,t,f,f,f],[f,f,f,t,t,f,f],[f,f,f,t,f,f,f],[f,f,f,t,f,f,f],[t,t,f,t,f,f,f],[f,t,f,f,f,f,f]]
def kn (op:Int):Bool:=decide (1≤op∧op≤22)
def us (op:Int):List Bool:=if kn op then (ut[(op-1).toNat]?).getD [] else []
def uk (op:Int) (k:Nat):Bool:=((us op)[k]?).getD false
def In.vals (i:In):List Int:=[i.a,i.b,i.c,i.o,i.n,i.f,i.r]
def isReg (n:Int):Bool:=decide (0≤n∧n<8)
def fldE:List Bool→List Int→Bool
 |[],_=>false
 |_,[]=>false
 |u::us,v::vs=>(!u&&decide (v≠0))||fldE us vs
def chI (i:In):Int:=
 if kn i.op=false then 8
 else if fldE (us i.op) i.vals=true then 9
 else if (uk i.op 0&&!isReg i.a||uk i.op 1&&!isReg i.b||uk i.op 2&&!isReg i.c)=true then 10
 else if (uk i.op 6&&!decide (0≤i.r∧i.r≤2))=true then 13
 else if (uk i.op 5&&!decide (1≤i.f∧i.f≤10))=true then 8
 else if i.op=1∧¬isVal i.n then 2
 else 0
def vis (op:Int):Bool:=decide (8≤op∧op≤22)
def drn (op:Int):Bool:=vis op&&decide (op≠8)&&decide (op≠9)&&decide (op≠14)
def dfn (i:In):Option Int:=if chI i=0∧uk i.op 0=true then some i.a else none
def letr (c:UInt8):Bool:=decide (97≤c.toNat∧c.toNat≤122∨65≤c.toNat∧c.toNat≤90)
def lett (c:UInt8):Bool:=letr c||decide (c.toNat=95∨48≤c.toNat∧c.toNat≤57)
def nmOk (s:Str):Bool:=match s with
 |[]=>false
 |c::r=>decide (s.length≤16)&&letr c&&r.all lett
def nms:List Str→List Str→Int
 |_,[]=>0
 |pre,s::r=>if nmOk s=false then 6 else if s∈pre then 7 else nms (pre++[s]) r
def nob (p:Pg) (op:Int):Int:=
 if op=8∨op=9∨op=10∨op=11∨op=12∨op=14 then p.vs.length
 else if op=15∨op=16∨op=17 then p.ms.length
 else if op=18∨op=19∨op=20 then p.cs.length
 else if op=21 then p.fs.length
 else -1
def insE (p:Pg) (len:Nat) (i:In):Int:=
 if chI i≠0 then chI i
 else if 0≤nob p i.op∧¬(0≤i.o∧i.o<nob p i.op) then 11
 else if i.op=18∧¬(0≤i.n∧i.n<p.ms.length) then 11
 else if (i.op=4∨i.op=5)∧¬(0≤i.n∧i.n≤len) then 12
 else 0
def funE (p:Pg) (f:Str×List In):Int:=if 64<f.2.length then 4 else fst0 (f.2.map (insE p f.2.length))
def limE (p:Pg):Int:=if 8<p.vs.length∨4<p.ms.length∨4<p.cs.length∨8<p.fs.length then 4 else 0
def iniE (p:Pg):Int:=if p.vs.all (fun v=>okV v.2)=true then 0 else 2
def stE (p:Pg) (t:Int×Int):Int:=if ¬(0≤t.1∧t.1<(p.fs.length:Int)) then 11 else if okV t.2=false then 2 else 0
def thrE (p:Pg):Int:=
 if p.ts.length<1∨8<p.ts.length then 4 else fst0 (p.ts.map (stE p))
def nmsE (p:Pg):Int:=fst0 [nms [] (p.vs.map (·.1)),nms [] p.ms,nms [] p.cs,nms [] (p.fs.map (·.1))]
def codE (p:Pg):Int:=fst0 (p.fs.map (funE p))
def chP (p:Pg):Int:=fst0 [nmsE p,limE p,iniE p,codE p,thrE p]
end Go.Ex

namespace Go.Ex
open Go.Rc
structure Th where
 id:Int
 fn:Int
 pc:Int
 rg:Nat→Int
 st:Int
 ch:Int
 ph:Int
 ss:Int
 ft:Int
 hd:List Int
 deriving Inhabited
def w32 (n:Int):Int:=if n % 4294967296≥2147483648 then n % 4294967296-4294967296 else n % 4294967296
theorem w32_val {n:Int}:w32 n=n↔isVal n:=by unfold w32 isVal;split<;>omega
theorem w32_isVal (n:Int):isVal (w32 n):=by unfold w32 isVal;split<;>omega
def tr (b:Bool):Int:=if b then 1 else 0
def bitw (f:Nat→Nat→Nat) (x y:Int):Int:=w32 (f (x % 4294967296).toNat (y % 4294967296).toNat:Nat)
def appF (f a b:Int):Int:=
 let x:=w32 a;let y:=w32 b
 if f=1 then w32 (x+y) else if f=2 then w32 (x-y) else if f=3 then w32 (x*y)
 else if f=4 then bitw (· &&& ·) x y else if f=5 then bitw (· ||| ·) x y else if f=6 then bitw (· ^^^ ·) x y
 else if f=7 then tr (decide (x=y)) else if f=8 then tr (decide (x≠y)) else if f=9 then tr (decide (x<y)) else if f=10 then tr (decide (x≤y))
 else 0
def appE (f:Int):Int:=if 1≤f∧f≤10 then 0 else 8
def dpt:Nat→Int→Option Nat
 |0,_=>none
 |k+1,id=>if id<8 then some 0 else if 7≤id % 8 then none else (dpt k (id / 8-1)).map (·+1)
def dep (id:Int):Option Nat:=if id<0 then none else dpt 5 id
def chd (t:Th):Option Int:=match dep t.id with
 |some d=>if d=4∨t.ch<0∨7≤t.ch then none else some (8*(t.id+1)+t.ch)
 |none=>none
def fndT:List Th→Int→Option Nat
 |[],_=>none
 |t::r,id=>if t.id=id then some 0 else (fndT r id).map (·+1)
def incr:List Int→Bool
 |a::b::r=>decide (a<b)&&incr (b::r)
 |_=>true
def ins (n:Int):List Int→List Int
 |[]=>[n]
 |a::r=>if n<a then n::a::r else if n=a then a::r else a::ins n r
def del (n:Int) (l:List Int):List Int:=l.filter fun x=>decide (x≠n)
def mkS (l:List Int):List Int:=l.foldl (fun s n=>ins n s) []
def codeT (p:Pg) (t:Th):List In:=((p.fs[t.fn.toNat]?).map (·.2)).getD []
def insT (p:Pg) (t:Th):Option In:=(codeT p t)[t.pc.toNat]?
def reg (t:Th) (k:Int):Int:=t.rg k.toNat
def frmT (p:Pg) (bd:Int) (t:Th):Bool:=
 match dep t.id with
 |none=>false
 |some d=>
  decide (0≤t.fn∧t.fn<p.fs.length)&&decide (0≤t.pc∧t.pc≤(codeT p t).length)&&(List.range 8).all (fun j=>okV (t.rg j)) &&
  decide (0≤t.st∧t.st≤bd)&&decide (0≤t.ch∧t.ch≤7)&&(decide (d≠4)||decide (t.ch=0))&&incr t.hd &&
  t.hd.all (fun m=>decide (0≤m∧m<p.ms.length)) &&
  (decide (t.ph=0)||(decide (t.ph=1∨t.ph=2)&&match insT p t with
   |none=>false
   |some i=>decide (i.op=18)&&!t.hd.contains i.n))
def obs (t:Th) (i:In):Int:=
 if t.ph≠0 then 0
 else if i.op=18 then (if t.hd.contains i.n then 0 else 27)
 else if i.op=16 then (if t.hd.contains i.o then 0 else 27)
 else if i.op=21 then (if (chd t).isSome then 0 else 28)
 else 0
def setR (t:Th) (k v:Int):Th:={ t with rg:=fun j=>if j=k.toNat then v else t.rg j }
def endT (t:Th) (s f:Int):Th:={ t with ss:=s,ft:=f }
def locT (t:Th) (i:In):Th×Bool:=
 if i.op=1 then ({ setR t i.a i.n with pc:=t.pc+1 },true)
 else if i.op=2 then ({ setR t i.a (reg t i.b) with pc:=t.pc+1 },true)
 else if i.op=3 then ({ setR t i.a (appF i.f (reg t i.b) (reg t i.c)) with pc:=t.pc+1 },true)
 else if i.op=4 then ({ t with pc:=i.n },true)
 else if i.op=5 then ({ t with pc:=if reg t i.b=0 then t.pc+1 else i.n },true)
 else if i.op=6 then (if reg t i.b=0 then (endT t 3 26,false) else ({ t with pc:=t.pc+1 },true))
 else if i.op=7 then (endT t 2 0,false)
 else ({ t with pc:=t.pc+1 },true)
def setl (p:Pg) (bd:Int):Nat→Th→Th
 |k,t=>match insT p t with
  |none=>endT t 2 0
  |some i=>
   if vis i.op=true then (if obs t i≠0 then endT t 3 (obs t i) else if t.st=bd then endT t 4 0 else t)
   else match k with
    |0=>endT t 3 29
    |k+1=>match locT t i with
     |(t',true)=>setl p bd k t'
     |(t',false)=>t'
def zTh (id fn arg:Int):Th:=⟨id,fn,0,fun j=>if j=0 then arg else 0,0,0,0,1,0,[]⟩
def stdE (p:Pg) (bd:Int):Int:=if chP p≠0 then chP p else if bd<1∨32<bd then 2 else 0
def newE (p:Pg) (bd id fn arg:Int):Int:=
 if stdE p bd≠0 then stdE p bd else if dep id=none then 2 else if ¬(0≤fn∧fn<p.fs.length) then 11 else if okV arg=false then 2 else 0
def newT (p:Pg) (bd id fn arg:Int):Th:=setl p bd 256 (zTh id fn arg)
def okT (p:Pg) (bd:Int) (t:Th):Bool:=
 frmT p bd t&&match insT p t with
 |none=>decide (t.ss=2)&&decide (t.ft=0)&&decide (t.ph=0)
 |some i=>
  if t.ss=1∨t.ss=4 then decide (t.ft=0)&&vis i.op&&decide (obs t i=0)&&(decide (t.ss=1∧t.st<bd)||decide (t.ss=4∧1≤t.st))
  else if t.ss=2 then decide (t.ft=0)&&decide (t.ph=0)&&decide (i.op=7)
  else if t.ss=3 then decide (t.ph=0)&&(if t.ft=26 then decide (i.op=6)&&decide (reg t i.b=0) else if t.ft=29 then !vis i.op else decide (t.ft≠0)&&decide (obs t i=t.ft))
  else false
def penT (p:Pg) (t:Th):Option In:=if t.ss=1∧okT p 32 t=true then insT p t else none
def waitT (t:Th) (m:Int):Th:=
 if t.ph=0 then { t with hd:=del m t.hd,ph:=1 } else if t.ph=1 then { t with ph:=2 } else { t with hd:=ins m t.hd,ph:=0,pc:=t.pc+1 }
def nxtT (t:Th) (i:In) (v:Int):Th:=
 let t1:Th:={ t with st:=t.st+1 }
 let t2:Th:=match dfn i with
  |some a=>setR t1 a v
  |none=>t1
 if i.op=18 then waitT t2 i.n
 else
  let t3:Th:=if i.op=17∧v=0 then t2 else if i.op=17∨i.op=15 then { t2 with hd:=ins i.o t2.hd } else if i.op=16 then { t2 with hd:=del i.o t2.hd } else if i.op=21 then { t2 with ch:=t2.ch+1 } else t2
  { t3 with pc:=t3.pc+1 }
def cmpE (p:Pg) (bd:Int) (t:Th) (v:Int):Int:=
 if stdE p bd≠0 then stdE p bd else if okT p bd t=false then 1 else if t.ss≠1 then 30 else if okV v=false then 2 else 0
def cmpT (p:Pg) (bd:Int) (t:Th) (v:Int):Th:=match insT p t with
 |some i=>setl p bd 256 (nxtT t i v)
 |none=>t
end Go.Ex

namespace Go.Ex
open Go.Rc
structure Me where
 va:List Int
 ow:List Int
 qu:List (List Int)
 sg:List Int
 deriving DecidableEq,Inhabited
structure Bu where
 t:Int
 f:Int
 es:List (Int×Int)
 deriving DecidableEq,Inhabited
structure Sa where
 th:List Th
 me:Me
 bu:List Bu
 deriving Inhabited
def frmM (m:Me):Bool:=
 decide (m.va.length≤8∧m.ow.length≤4∧m.qu.length≤4)&&incr m.sg&&m.va.all (fun v=>okV v)&&m.ow.all (fun o=>decide (-1≤o)) &&
 (m.sg++m.qu.flatten).all (fun i=>decide (0≤i))&&decide (m.sg++m.qu.flatten).Nodup
def newM (p:Pg):Me:=⟨p.vs.map (·.2),p.ms.map fun _ => -1,p.cs.map fun _=>[],[]⟩
def valM (p:Pg) (m:Me):Bool:=decide (chP p=0)&&frmM m&&decide (m.va.length=p.vs.length∧m.ow.length=p.ms.length∧m.qu.length=p.cs.length)
def inE (m:Me) (i:Int) (n:Nat):Int:=if frmM m=false then 1 else if i<0∨n≤i then 11 else 0
def geti (l:List Int) (i:Int):Int:=(l[i.toNat]?).getD 0
def getq (m:Me) (c:Int):List Int:=(m.qu[c.toNat]?).getD []
def freM (m:Me) (i:Int):Bool:=decide (inE m i m.ow.length=0)&&decide (geti m.ow i = -1)
def wrE (m:Me) (x v:Int):Int:=if inE m x m.va.length≠0 then inE m x m.va.length else if okV v=false then 2 else 0
def wrM (m:Me) (x v:Int):Me:={ m with va:=m.va.set x.toNat v }
def ownE (m:Me) (i id old:Int):Int:=
 if inE m i m.ow.length≠0 then inE m i m.ow.length else if id<0 then 2 else if geti m.ow i≠old then 30 else 0
def ownM (m:Me) (i new:Int):Me:={ m with ow:=m.ow.set i.toNat new }
def enqE (m:Me) (c id:Int):Int:=
 if inE m c m.qu.length≠0 then inE m c m.qu.length else if id<0 then 2 else if m.qu.any (·.contains id)||m.sg.contains id then 30 else 0
def enqM (m:Me) (c id:Int):Me:={ m with qu:=m.qu.set c.toNat (getq m c++[id]) }
def wakM (m:Me) (c:Int) (n:Nat):Me:={ m with sg:=((getq m c).take n).foldl (fun s i=>ins i s) m.sg,qu:=m.qu.set c.toNat ((getq m c).drop n) }
def wakE (m:Me) (id:Int):Int:=if frmM m=false then 1 else if m.sg.contains id then 0 else 30
def wokM (m:Me) (id:Int):Me:={ m with sg:=del id m.sg }
def valB (b:Bu):Bool:=
 decide (0≤b.t∧0≤b.f∧b.f≤32∧b.f+b.es.length≤32)&&b.es.all fun e=>decide (0≤e.1∧e.1<8)&&okV e.2
def lokL:List (Int×Int)→Int→Option (Int×Nat)
 |[],_=>none
 |e::r,x=>match lokL r x with
  |some (v,k)=>some (v,k+1)
  |none=>if e.1=x then some (e.2,0) else none
def lokB (b:Bu) (x:Int):Option (Int×Int):=(lokL b.es x).map fun p=>(p.1,b.f+p.2)
def fndB:List Bu→Int→Option Nat
 |[],_=>none
 |b::r,id=>if b.t=id then some 0 else (fndB r id).map (·+1)
def srtT:List Th→Bool
 |a::b::r=>decide (a.id<b.id)&&srtT (b::r)
 |_=>true
def valS (p:Pg) (bd:Int) (s:Sa):Bool:=valM p s.me&&s.bu.isEmpty&&s.th.all (okT p bd)&&srtT s.th
def strS (p:Pg) (bd:Int):Sa:=⟨(p.ts.zipIdx).map fun t=>newT p bd t.2 t.1.1 t.1.2,newM p,[]⟩
def accL (s:Sa) (t:Th) (i:In):Evt:=
 let v:=geti s.me.va i.o
 let e:Evt:=⟨t.id,t.st,5,i.o,-1,-1,i.r,v,0⟩
 if i.op=8 then { e with kind:=1 }
 else if i.op=14 then { e with kind:=8 }
 else if i.op=9 then { e with kind:=2,rd:=0,wr:=reg t i.b }
 else if i.op=10 then { e with wr:=reg t i.b }
 else if i.op=11 then { e with wr:=appF 1 v (reg t i.b) }
 else if v=reg t i.b then { e with wr:=reg t i.c } else { e with kind:=6 }
def labS (s:Sa) (t:Th) (i:In):Evt:=
 let e:Evt:=⟨t.id,t.st,0,i.o,-1,-1,0,0,0⟩
 if i.op=13 then { e with kind:=7 }
 else if i.op=15 then { e with kind:=9 }
 else if i.op=16 then { e with kind:=10 }
 else if i.op=17 then { e with kind:=11,rd:=tr (freM s.me i.o) }
 else if i.op=18 then (if t.ph=0 then { e with kind:=12,mux:=i.n } else if t.ph=1 then { e with kind:=13 } else { e with kind:=9,obj:=i.n })
 else if i.op=19 then { e with kind:=14,rd:=min 1 ((getq s.me i.o).length:Int) }
 else if i.op=20 then { e with kind:=15,rd:=(getq s.me i.o).length }
 else if i.op=21 then { e with kind:=16,obj:=(chd t).getD 0 }
 else if i.op=22 then { e with kind:=17,obj:=reg t i.b }
 else accL s t i
def enaS (s:Sa) (t:Th) (i:In):Bool:=
 if i.op=14 then decide (appF i.f (geti s.me.va i.o) (reg t i.b)≠0)
 else if i.op=15 then freM s.me i.o
 else if i.op=18 then (if t.ph=1 then s.me.sg.contains t.id else if t.ph=2 then freM s.me i.n else true)
 else if i.op=22 then (match fndT s.th (reg t i.b) with
  |some k=>match s.th[k]? with
   |some u=>decide (u.ss=2∨u.ss=3)
   |none=>false
  |none=>false)
 else true
def agsS (p:Pg) (s:Sa):List Int:=s.th.filterMap fun t=>match penT p t with
 |some i=>if enaS s t i then some t.id else none
 |none=>none
def effE (m:Me) (t:Th) (e:Evt):Int:=
 if e.kind=5∨e.kind=2 then wrE m e.obj e.wr
 else if e.kind=11∧e.rd=0 then 0
 else if e.kind=11∨e.kind=9 then ownE m e.obj t.id (-1)
 else if e.kind=10 then ownE m e.obj t.id t.id
 else if e.kind=12 then (if ownE m e.mux t.id t.id≠0 then ownE m e.mux t.id t.id else enqE (ownM m e.mux (-1)) e.obj t.id)
 else if e.kind=13 then wakE m t.id
 else if e.kind=14∨e.kind=15 then inE m e.obj m.qu.length
 else 0
def effM (m:Me) (t:Th) (e:Evt):Me:=
 if e.kind=5∨e.kind=2 then wrM m e.obj e.wr
 else if e.kind=11∧e.rd=0 then m
 else if e.kind=11∨e.kind=9 then ownM m e.obj t.id
 else if e.kind=10 then ownM m e.obj (-1)
 else if e.kind=12 then enqM (ownM m e.mux (-1)) e.obj t.id
 else if e.kind=13 then wokM m t.id
 else if e.kind=14 then wakM m e.obj (min 1 (getq m e.obj).length)
 else if e.kind=15 then wakM m e.obj (getq m e.obj).length
 else m
def resS (i:In) (e:Evt):Int:=
 if e.kind=5 then (if i.op=12 then 1 else e.rd)
 else if e.kind=1∨e.kind=8 then e.rd
 else if e.kind=11 then (if e.rd=0 then 0 else 1)
 else if e.kind=16 then e.obj
 else 0
def putT (c:Th):List Th→List Th
 |[]=>[c]
 |t::r=>if t.id<c.id then t::putT c r else c::t::r
def repT (t:Th) (l:List Th):List Th:=match fndT l t.id with
 |some k=>l.set k t
 |none=>l
end Go.Ex

namespace Go.Ex
open Go.Rc
abbrev Res:=Int×Sa×Evt
def noEv:Evt:=⟨0,0,0,0,0,0,0,0,0⟩
def noSa:Sa:=⟨[],⟨[],[],[],[]⟩,[]⟩
def bad (e:Int):Res:=(e,noSa,noEv)
def runS (p:Pg) (s:Sa) (a:Int):Option (Nat×Th×In):=
 match fndT s.th a with
 |none=>none
 |some k=>match s.th[k]? with
  |none=>none
  |some t=>match penT p t with
   |none=>none
   |some i=>some (k,t,i)
def stpS (p:Pg) (bd:Int) (s:Sa) (a:Int):Res:=
 if stdE p bd≠0 then bad (stdE p bd)
 else if valS p bd s=false then bad 1
 else match runS p s a with
 |none=>bad 19
 |some (k,t,i)=>
  if enaS s t i=false then bad 19
  else
   let e:=labS s t i
   if effE s.me t e≠0 then bad 30
   else
    let m:=effM s.me t e
    if e.kind=16∧(fndT s.th e.obj).isSome then bad 30
    else
     let th:=if e.kind=16 then putT (newT p bd e.obj i.o (reg t i.b)) s.th else s.th
     (0,⟨repT (cmpT p bd t (resS i e)) th,m,[]⟩,e)
def valX (p:Pg) (bd:Int) (s:Sa):Bool:=
 valM p s.me&&decide (s.bu.length=s.th.length)&&s.th.all (okT p bd)&&srtT s.th&&s.bu.all valB&&decide (s.bu.map (·.t)=s.th.map (·.id)) &&
 s.bu.all fun b=>b.es.all fun e=>decide (e.1<p.vs.length)
def part (s:Sa):Sa:=⟨s.th,s.me,[]⟩
def see (s:Sa) (b:Bu) (x:Int):Int×Int:=(lokB b x).getD (geti s.me.va x,-1)
def fls (id:Int):Int:=if id<0 then 0 else -id-1
def thr (a:Int):Int:=if a<0 then -(a+1) else a
def labX (s:Sa) (t:Th) (b:Bu) (i:In):Evt:=
 let e:Evt:=⟨t.id,t.st,1,i.o,-1,0,i.r,0,0⟩
 if i.op=8 then { e with rd:=(see s b i.o).1,ent:=(see s b i.o).2 }
 else if i.op=14 then { e with kind:=8,rd:=(see s b i.o).1,ent:=(see s b i.o).2 }
 else if i.op=9 then { e with kind:=3,wr:=reg t i.b,ent:=b.f+b.es.length }
 else labS (part s) t i
def flsX (t:Th) (b:Bu):Option Evt:=match b.es with
 |[]=>none
 |x::_=>some ⟨fls t.id,b.f,4,x.1,-1,b.f,0,0,x.2⟩
def enaX (p:Pg) (s:Sa) (t:Th) (b:Bu) (i:In):Bool:=
 if i.op=8∨i.op=9 then true
 else if i.op=14 then decide (appF i.f (see s b i.o).1 (reg t i.b)≠0)
 else if (drn i.op=true∧b.es≠[])∨enaS (part s) t i=false then false
 else if i.op=22 then (match fndB s.bu (reg t i.b) with
  |some k=>match s.bu[k]? with
   |some c=>c.es.isEmpty
   |none=>false
  |none=>false)
 else true
def agsX (p:Pg) (s:Sa):List Int:=
 (s.bu.reverse.filterMap fun b=>if b.es.isEmpty then none else some (fls b.t)) ++
 (s.th.zip s.bu).filterMap fun q=>match penT p q.1 with
  |some i=>if enaX p s q.1 q.2 i then some q.1.id else none
  |none=>none
def stpX (p:Pg) (bd:Int) (s:Sa) (a:Int):Res:=
 if stdE p bd≠0 then bad (stdE p bd)
 else if valX p bd s=false then bad 1
 else if (agsX p s).contains a=false then bad 19
 else match fndT s.th (thr a) with
 |none=>bad 19
 |some k=>match s.th[k]?,s.bu[k]? with
  |some t,some b=>
   if a<0 then (match flsX t b with
    |none=>bad 19
    |some e=>(0,⟨s.th,wrM s.me e.obj e.wr,s.bu.set k ⟨b.t,b.f+1,b.es.tail⟩⟩,e))
   else match penT p t with
    |none=>bad 19
    |some i=>
     let e:=labX s t b i
     if i.op=8∨i.op=14 then (0,⟨s.th.set k (cmpT p bd t e.rd),s.me,s.bu⟩,e)
     else if i.op=9 then (if b.f+b.es.length=32 then bad 30 else (0,⟨s.th.set k (cmpT p bd t 0),s.me,s.bu.set k ⟨b.t,b.f,b.es++[(e.obj,e.wr)]⟩⟩,e))
     else
      let r:=stpS p bd (part s) a
      if r.1≠0 then r
      else (0,⟨r.2.1.th,r.2.1.me,r.2.1.th.map fun u=>match fndB s.bu u.id with
       |some j=>(s.bu[j]?).getD ⟨u.id,0,[]⟩
       |none=>⟨u.id,0,[]⟩⟩,r.2.2)
  |_,_=>bad 19
structure Cf where
 md:Int
 bd:Int
def cfE (c:Cf):Int:=if ¬(c.md=1∨c.md=2∨c.md=3) then 18 else if c.bd<1∨32<c.bd then 2 else 0
def chE (p:Pg) (c:Cf):Int:=if chP p≠0 then chP p else if cfE c≠0 then cfE c else if c.md=3 then 18 else 0
def strX (p:Pg) (c:Cf):Sa:=let s:=strS p c.bd;if c.md=2 then { s with bu:=s.th.map fun t=>⟨t.id,0,[]⟩ } else s
def stp (p:Pg) (c:Cf) (s:Sa) (a:Int):Res:=if c.md=2 then stpX p c.bd s a else stpS p c.bd s a
def ags (p:Pg) (c:Cf) (s:Sa):List Int:=if c.md=2 then (if valX p 32 s then agsX p s else []) else if valS p 32 s then agsS p s else []
def run (p:Pg) (c:Cf):List Int→List Evt→Sa→Int×List Evt×Sa
 |[],es,s=>(0,es,s)
 |a::r,es,s=>if (stp p c s a).1≠0 then ((stp p c s a).1,[],noSa) else run p c r (es++[(stp p c s a).2.2]) (stp p c s a).2.1
def runE (p:Pg) (c:Cf) (l:List Int):Int×List Evt×Sa:=
 if chE p c≠0 then (chE p c,[],noSa) else if 512<l.length then (4,[],noSa) else run p c l [] (strX p c)
end Go.Ex

namespace Go.Ex
open Go.Rc
structure Msg where
 ev:Int
 val:Int
 vw:List Int
 deriving Inhabited,DecidableEq
structure Ra where
 th:List Th
 me:Me
 ms:List (List Msg)
 vs:List (List Int)
 lk:List (List Int)
 sg:List (List Int)
 ev:List Evt
 rf:List Int
 mo:List (List Int)
def ixM (e:Int):List Msg→Option Nat
 |[]=>none
 |m::r=>if m.ev=e then some 0 else (ixM e r).map (·+1)
def posM (l:List Msg) (e:Int):Int:=if e = -1 then 0 else match ixM e l with
 |some k=>(k:Int)+1
 |none => -1
def gt2 {α:Type} (l:List (List α)) (x:Nat):List α:=(l[x]?).getD []
def alI {α:Type} (f:Nat→α→Bool):List α→Nat→Bool
 |[],_=>true
 |x::r,i=>f i x&&alI f r (i+1)
def gdV (s:Ra) (v:List Int):Bool:=decide (v.length=s.ms.length)&&alI (fun x e=>decide (0≤posM (gt2 s.ms x) e)) v 0
def acc (op:Int):Bool:=decide (8≤op∧op≤12)||decide (op=14)
def atV (p:Pg) (s:Ra) (x:Nat) (k:Nat):Int:=match k with
 |0=>((p.vs[x]?).map (·.2)).getD 0
 |k+1=>(((gt2 s.ms x)[k]?).map (·.val)).getD 0
def updV (s:Ra) (x:Nat) (k:Nat):Bool:=match k with
 |0=>false
 |k+1=>match (gt2 s.ms x)[k]? with
  |none=>false
  |some m=>decide (((s.ev[m.ev.toNat]?).map (·.kind)).getD 0=5)
def gdM (s:Ra) (x:Nat):Bool:=
 decide ((gt2 s.ms x).length=(gt2 s.mo x).length) &&
 alI (fun (i:Nat) (m:Msg)=>decide (0≤m.ev∧m.ev<s.ev.length)&&decide ((gt2 s.mo x)[i]?=some m.ev)&&!((gt2 s.mo x).take i).contains m.ev &&
  (match s.ev[m.ev.toNat]? with
  |none=>false
  |some e=>(decide (e.kind=2)||decide (e.kind=5))&&decide (e.obj=x)&&decide (e.wr=m.val)&&okV m.val)) (gt2 s.ms x) 0
end Go.Ex
