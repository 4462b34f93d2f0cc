/- Parts of the proofs of the statement, joined and made short: AmRep AmInv. -/
import Derived.Test.YtmoibjjpfemgjaaGreatDoorP2
import Derived.Laws.World
import Derived.Laws.Sem
import Derived.Laws.IdiomCopy
import Derived.ChangeFn
set_option linter.unusedVariables false
set_option linter.unusedSimpArgs false
set_option linter.unusedSectionVars false
namespace Go.Am
abbrev Froz:=Nat→Nat→Option Value
def cellsAt (F:Froz) (b o:Nat) (cs:List Value):Prop:=∀(j:Nat) (v:Value),cs[j]?=some v→F b (o+j)=some v
def Froz.le (F F':Froz):Prop:=∀b o v,F b o=some v→F' b o=some v
theorem cellsAt.mono {F F':Froz} (h:F.le F') {b o:Nat} {cs:List Value} (hc:cellsAt F b o cs):cellsAt F' b o cs:=
 fun j v hj=>h _ _ _ (hc j v hj)
mutual
def RepD (F:Froz):Dat→List Value→Prop
 |.int k n,cs=>cs=[.int k n]
 |.bool b,cs=>cs=[.bool b]
 |.str s,cs=>cs=[.string ⟨s.toArray⟩]
 |.sl l,cs=>∃a cap,cs=[.slice a l.length cap]∧l.length≤cap∧(l=[]∨∃b o sz,a=some ⟨b,o,none⟩∧RowD F l b o sz)
 |.agg l,cs=>AggD F l cs
def AggD (F:Froz):List Dat→List Value→Prop
 |[],cs=>cs=[]
 |d::r,cs=>∃c cs',cs=c::cs'∧d.isAgg=false∧RepD F d [c]∧AggD F r cs'
def RowD (F:Froz):List Dat→Nat→Nat→Nat→Prop
 |[],_,_,_=>True
 |d::r,b,o,sz=>(∃cs,cs.length=sz∧RepD F d cs∧cellsAt F b o cs)∧RowD F r b (o+sz) sz
end
def zqc7:Value→Bool
 |.agg _=>true
 |_=>false
def RepV (F:Froz) (d:Dat) (v:Value):Prop:=RepD F d v.cells.toList∧zqc7 v=d.isAgg
mutual
theorem RepD.mono {F F':Froz} (h:F.le F'):∀(d:Dat) (cs:List Value),RepD F d cs→RepD F' d cs
 |.int k n,cs,hd=>by simpa[RepD]using hd
 |.bool b,cs,hd=>by simpa[RepD]using hd
 |.str s,cs,hd=>by simpa[RepD]using hd
 |.sl l,cs,hd=>by
  simp only[RepD]at hd ⊢;obtain⟨a,cap,h1,h2,h3⟩:=hd;refine⟨a,cap,h1,h2,?_⟩;rcases h3 with h3|⟨b,o,sz,ha,hr⟩
  ·exact .inl h3
  ·exact .inr ⟨b,o,sz,ha,RowD.mono h l b o sz hr⟩
 |.agg l,cs,hd=>by
  simp only[RepD]at hd ⊢;exact AggD.mono h l cs hd
theorem AggD.mono {F F':Froz} (h:F.le F'):∀(l:List Dat) (cs:List Value),AggD F l cs→AggD F' l cs
 |[],cs,hd=>by simpa[AggD]using hd
 |d::r,cs,hd=>by
  simp only[AggD]at hd ⊢;obtain⟨c,cs',h1,h2,h3,h4⟩:=hd;exact⟨c,cs',h1,h2,RepD.mono h d _ h3,AggD.mono h r _ h4⟩
theorem RowD.mono {F F':Froz} (h:F.le F'):∀(l:List Dat) (b o sz:Nat),RowD F l b o sz→RowD F' l b o sz
 |[],b,o,sz,hd=>by simp[RowD]
 |d::r,b,o,sz,hd=>by
  simp only[RowD]at hd ⊢;obtain⟨⟨cs,h1,h2,h3⟩,h4⟩:=hd;exact⟨⟨cs,h1,RepD.mono h d _ h2,h3.mono h⟩,RowD.mono h r _ _ _ h4⟩
end
theorem RepV.mono {F F':Froz} (h:F.le F') {d:Dat} {v:Value} (hd:RepV F d v):RepV F' d v:=⟨RepD.mono h _ _ hd.1,hd.2⟩
theorem AggD.length {F:Froz}:∀{l:List Dat} {cs:List Value},AggD F l cs→cs.length=l.length
 |[],cs,h=>by simp only[AggD]at h;simp[h]
 |d::r,cs,h=>by
  simp only[AggD]at h;obtain⟨c,cs',rfl,_,_,h4⟩:=h;simp[h4.length]
theorem RepD.length {F:Froz} {d:Dat} {cs:List Value} (h:RepD F d cs):cs.length=d.width:=by
 cases d with
 |agg l=>simp only[RepD]at h;simpa[Dat.width]using h.length
 |sl l=>simp only[RepD]at h;obtain⟨a,cap,rfl,_⟩:=h;simp[Dat.width]
 |_=>simp only[RepD]at h;subst h;simp[Dat.width]
theorem RepD.leaf {F:Froz} {d:Dat} {cs:List Value} (h:RepD F d cs) (hd:d.isAgg=false):∃c,cs=[c]∧c.oneCell'=true∧zqc7 c=false:=by
 cases d with
 |agg l=>simp at hd
 |sl l=>simp only[RepD]at h;obtain⟨a,cap,rfl,_⟩:=h;exact⟨_,rfl,rfl,rfl⟩
 |_=>simp only[RepD]at h;subst h;exact⟨_,rfl,rfl,rfl⟩
theorem AggD.one {F:Froz}:∀{l:List Dat} {cs:List Value},AggD F l cs→∀c∈cs,c.oneCell'=true
 |[],cs,h=>by simp only[AggD]at h;simp[h]
 |d::r,cs,h=>by
  simp only[AggD]at h;obtain⟨c,cs',rfl,h2,h3,h4⟩:=h;intro x hx;obtain⟨c',hc,h1,_⟩:=h3.leaf h2;cases hx with
  |head=>simp at hc;exact hc▸h1
  |tail _ hx=>exact h4.one x hx
theorem RepD.one {F:Froz} {d:Dat} {cs:List Value} (h:RepD F d cs):∀c∈cs,c.oneCell'=true:=by
 cases hd:d.isAgg with
 |true=>
  cases d with
  |agg l=>simp only[RepD]at h;exact h.one
  |_=>simp at hd
 |false=>
  obtain⟨c,rfl,h1,_⟩:=h.leaf hd;simpa using h1
theorem zva7 {v:Value} (h:zqc7 v=false):v.cells=#[v]:=by cases v<;>simp_all [zqc7,Value.cells]
theorem zhb7 {F:Froz} {d:Dat} {c:Value} (hd:d.isAgg=false) (h:RepD F d [c]):RepV F d c:=by
 obtain⟨c',hc,_,h2⟩:=h.leaf hd;simp at hc;subst hc;exact⟨by rw[zva7 h2];exact h,by rw[h2,hd]⟩
theorem RepV.cell {F:Froz} {d:Dat} {v:Value} (h:RepV F d v) (hd:d.isAgg=false):RepD F d [v]:=by
 obtain⟨h1,h2⟩:=h;rw[hd]at h2;rw[zva7 h2]at h1;exact h1
theorem RepV.agg {F:Froz} {l:List Dat} {v:Value} (h:RepV F (.agg l) v):∃cs,v=.agg cs∧AggD F l cs.toList:=by
 obtain⟨h1,h2⟩:=h;cases v<;>simp[zqc7,Dat.isAgg]at h2
 case agg cs=>exact⟨cs,rfl,by simpa[RepD,Value.cells]using h1⟩
theorem repV_agg {F:Froz} {l:List Dat} {cs:Array Value} (h:AggD F l cs.toList):RepV F (.agg l) (.agg cs):=
 ⟨by simpa[RepD,Value.cells]using h,rfl⟩
theorem RepD.cellsAgg {F:Froz} {d:Dat} {cs:List Value} (h:RepD F d cs):AggD F d.cells cs:=by
 cases hd:d.isAgg with
 |true=>
  cases d with
  |agg l=>simpa[RepD]using h
  |_=>simp at hd
 |false=>
  obtain⟨c,rfl,h1,_⟩:=h.leaf hd;have:d.cells=[d]:=by cases d<;>simp_all
  rw[this];simp only[AggD];exact⟨c,[],rfl,hd,h,rfl⟩
theorem AggD.get {F:Froz}:∀{l:List Dat} {cs:List Value},AggD F l cs→∀{i:Nat} {d:Dat},l[i]?=some d→∃c,cs[i]?=some c∧d.isAgg=false∧RepD F d [c]
 |[],cs,h,i,d,hi=>by simp at hi
 |x::r,cs,h,i,d,hi=>by
  simp only[AggD]at h;obtain⟨c,cs',rfl,h2,h3,h4⟩:=h;cases i with
  |zero=>simp at hi;subst hi;exact⟨c,rfl,h2,h3⟩
  |succ i=>simp at hi;simpa using h4.get hi
theorem AggD.take {F:Froz}:∀{l:List Dat} {cs:List Value},AggD F l cs→∀(n:Nat),AggD F (l.take n) (cs.take n)
 |[],cs,h,n=>by simp only[AggD]at h;subst h;simp[AggD]
 |x::r,cs,h,0=>by simp[AggD]
 |x::r,cs,h,n+1=>by
  simp only[AggD]at h;obtain⟨c,cs',rfl,h2,h3,h4⟩:=h;simp only[List.take_succ_cons,AggD];exact⟨c,cs'.take n,rfl,h2,h3,h4.take n⟩
theorem AggD.drop {F:Froz}:∀{l:List Dat} {cs:List Value},AggD F l cs→∀(n:Nat),AggD F (l.drop n) (cs.drop n)
 |[],cs,h,n=>by simp only[AggD]at h;subst h;simp[AggD]
 |x::r,cs,h,0=>by simpa using h
 |x::r,cs,h,n+1=>by
  simp only[AggD]at h;obtain⟨c,cs',rfl,h2,h3,h4⟩:=h;simpa using h4.drop n
theorem AggD.append {F:Froz}:∀{l l':List Dat} {cs cs':List Value},AggD F l cs→AggD F l' cs'→AggD F (l++l') (cs++cs')
 |[],l',cs,cs',h,h'=>by simp only[AggD]at h;subst h;simpa using h'
 |x::r,l',cs,cs',h,h'=>by
  simp only[AggD]at h;obtain⟨c,cs'',rfl,h2,h3,h4⟩:=h;simp only[List.cons_append,AggD];exact⟨c,cs''++cs',rfl,h2,h3,h4.append h'⟩
theorem RowD.get {F:Froz}:∀{l:List Dat} {b o sz:Nat},RowD F l b o sz→∀{i:Nat} {d:Dat},l[i]?=some d→
  ∃cs,cs.length=sz∧RepD F d cs∧cellsAt F b (o+i*sz) cs
 |[],b,o,sz,h,i,d,hi=>by simp at hi
 |x::r,b,o,sz,h,i,d,hi=>by
  simp only[RowD]at h;cases i with
  |zero=>simp at hi;subst hi;simpa using h.1
  |succ i=>
   simp at hi;obtain⟨cs,h1,h2,h3⟩:=h.2.get hi;refine⟨cs,h1,h2,?_⟩
   rwa [show o+(i+1)*sz=o+sz+i*sz by rw[Nat.add_mul];omega]
theorem rowD_of {F:Froz}:∀{l:List Dat} {b o sz:Nat},(∀(i:Nat) (d:Dat),l[i]?=some d→∃cs,cs.length=sz∧RepD F d cs∧cellsAt F b (o+i*sz) cs)→RowD F l b o sz
 |[],b,o,sz,h=>by simp[RowD]
 |x::r,b,o,sz,h=>by
  simp only[RowD];refine⟨by simpa using h 0 x rfl,rowD_of fun i d hi=>?_⟩;obtain⟨cs,h1,h2,h3⟩:=h (i+1) d (by simpa using hi);refine⟨cs,h1,h2,?_⟩
  rwa [show o+sz+i*sz=o+(i+1)*sz by rw[Nat.add_mul];omega]
theorem RowD.width {F:Froz} {l:List Dat} {b o sz:Nat} (h:RowD F l b o sz):∀d∈l,d.width=sz:=by
 intro d hd;obtain⟨i,hi⟩:=List.getElem?_of_mem hd;obtain⟨cs,h1,h2,_⟩:=h.get hi;rw[←h2.length,h1]
structure Loc where
 b:Nat
 o:Nat
 n:Nat
structure Ctx where
 w:World
 F:Froz
 μ:Id→Loc
 ρ:Look
def boxAt (C:Ctx) (id:Id):Option Loc:=
 match C.ρ id with
 |some (.box _)=>some (C.μ id)
 |_=>none
structure ArrAt where
 ver:Nat
 sz:Nat
 n:Nat
 L:Loc
def blkAt (C:Ctx) (id:Id):Option Nat:=
 match C.ρ id with
 |some (.blk _)=>some (C.μ id).b
 |_=>none
def arrAt (C:Ctx) (id:Id):Option ArrAt:=
 match C.ρ id with
 |some (.arr sz ver _ es)=>some ⟨ver,sz,es.length,C.μ id⟩
 |some (.rarr sz ver es)=>some ⟨ver,sz,es.length,C.μ id⟩
 |_=>none
mutual
def RepA (C:Ctx):AVal→Value→Prop
 |.dat d,v=>RepV C.F d v
 |.nils,v=>v=.slice none 0 0
 |.emp t,v=>∃a cap,v=.slice a 0 cap∧a.isNone=t
 |.cap0,v=>∃a,v=.slice a 0 0
 |.fsl l,v=>(∃a,v=.slice a l.length l.length)∧RepV C.F (.sl l) v
 |.nilp,v=>v=.pointer none
 |.ref id off,v=>∃L,boxAt C id=some L∧v=.pointer (some ⟨L.b,L.o+off,none⟩)
 |.eref id ver i off,v=>∃A a,arrAt C id=some A∧ver≤A.ver∧v=.pointer (some a)∧(ver=A.ver→i<A.n∧a=⟨A.L.b,A.L.o+i*A.sz+off,none⟩)
 |.rsl id ver sz off len,v=>∃A a cap,arrAt C id=some A∧ver≤A.ver∧v=.slice a len cap∧len≤cap∧(0<cap→a.isSome=true)∧
   (ver=A.ver→sz=A.sz∧off+len≤A.n∧A.L.n=(off+cap)*sz∧(0<cap→a=some ⟨A.L.b,A.L.o+off*sz,none⟩))
 |.fp l,v=>∃b o cs,v=.pointer (some ⟨b,o,none⟩)∧AggD C.F l cs∧cellsAt C.F b o cs
 |.junk,v=>v.oneCell'=true∧zqc7 v=false
 |.lits sz n l,v=>∃b o cap cs,v=.slice (some ⟨b,o,none⟩) n cap∧n≤cap∧l.length=n*sz∧RepL C l cs∧cellsAt C.F b o cs∧l.all AVal.leaf=true∧∀c∈cs,c.oneCell'=true
 |.agg l,v=>∃cs:Array Value,v=.agg cs∧RepL C l cs.toList∧l.all AVal.leaf=true∧∀c∈cs,c.oneCell'=true
 |.tup l,v=>∃cs:Array Value,v=.tuple cs∧RepL C l cs.toList
 |.fn f l,v=>∃cs:Array Value,v=(if BIGF≤f then .func (.func (f-BIGF)) cs #[] else .func (.func f) #[] cs)∧RepL C l cs.toList
 |.bref y id,v=>∃b,blkAt C id=some b∧v=(if y then .func (.yield b) #[] #[] else .map (some b))
 |.undef,_=>True
def RepL (C:Ctx):List AVal→List Value→Prop
 |[],cs=>cs=[]
 |a::r,cs=>∃c cs',cs=c::cs'∧RepA C a c∧RepL C r cs'
end
def GlobOK [Glob] (F:Froz):Prop:=∀n ds,Glob.tab n=some ds→∃cs,AggD F ds cs∧cellsAt F n 0 cs
theorem GlobOK.mono [Glob] {F F':Froz} (h:F.le F') (hg:GlobOK F):GlobOK F':=fun n ds e=>by
 obtain⟨cs,h1,h2⟩:=hg n ds e;exact⟨cs,AggD.mono h _ _ h1,h2.mono h⟩
structure Ext (f:Id→Id) (D:Id→Prop) (C C':Ctx):Prop where
 F:C.F.le C'.F
 box:∀id L,D id→boxAt C id=some L→boxAt C' (f id)=some L
 arr:∀id A,D id→arrAt C id=some A→∃A',arrAt C' (f id)=some A'∧A.ver≤A'.ver∧(A.ver=A'.ver→A'.sz=A.sz∧A'.L=A.L∧A.n≤A'.n)
 blk:∀id b,D id→blkAt C id=some b→blkAt C' (f id)=some b
mutual
theorem RepA.ext {f:Id→Id} {D:Id→Prop} {C C':Ctx} (h:Ext f D C C'):∀(a:AVal) (v:Value),(∀id∈a.ids,D id)→RepA C a v→RepA C' (a.ren f) v
 |.dat d,v,hi,hr=>by simp only[RepA,AVal.ren]at hr ⊢;exact hr.mono h.F
 |.nils,v,hi,hr=>by simpa only[RepA,AVal.ren]using hr
 |.emp t,v,hi,hr=>by simpa only[RepA,AVal.ren]using hr
 |.cap0,v,hi,hr=>by simpa only[RepA,AVal.ren]using hr
 |.fsl l,v,hi,hr=>by simp only[RepA,AVal.ren]at hr ⊢;exact⟨hr.1,hr.2.mono h.F⟩
 |.nilp,v,hi,hr=>by simpa only[RepA,AVal.ren]using hr
 |.undef,v,hi,hr=>by simp only[RepA,AVal.ren]
 |.junk,v,hi,hr=>by simpa only[RepA,AVal.ren]using hr
 |.ref id off,v,hi,hr=>by
  simp only[RepA,AVal.ren]at hr ⊢;obtain⟨L,h1,h2⟩:=hr;exact⟨L,h.box id L (hi id (by simp[AVal.ids])) h1,h2⟩
 |.eref id ver i off,v,hi,hr=>by
  simp only[RepA,AVal.ren]at hr ⊢;obtain⟨A,a,h1,h2,h3,h4⟩:=hr;obtain⟨A',h5,h6,h7⟩:=h.arr id A (hi id (by simp[AVal.ids])) h1;refine⟨A',a,h5,Nat.le_trans h2 h6,h3,fun e=>?_⟩;have e1:A.ver=A'.ver:=by omega
  obtain⟨h8,h9,h10⟩:=h7 e1;obtain⟨h11,h12⟩:=h4 (by omega);rw[h8,h9];exact⟨by omega,h12⟩
 |.rsl id ver sz off len,v,hi,hr=>by
  simp only[RepA,AVal.ren]at hr ⊢;obtain⟨A,a,cap,h1,h2,h3,h3',h3'',h4⟩:=hr;obtain⟨A',h5,h6,h7⟩:=h.arr id A (hi id (by simp[AVal.ids])) h1;refine⟨A',a,cap,h5,Nat.le_trans h2 h6,h3,h3',h3'',fun e=>?_⟩;have e1:A.ver=A'.ver:=by omega
  obtain⟨h8,h9,h10⟩:=h7 e1;obtain⟨h11,h12,h13,h14⟩:=h4 (by omega);rw[h8,h9];exact⟨h11,by omega,h13,h14⟩
 |.fp l,v,hi,hr=>by
  simp only[RepA,AVal.ren]at hr ⊢;obtain⟨b,o,cs,h1,h2,h3⟩:=hr;exact⟨b,o,cs,h1,AggD.mono h.F _ _ h2,h3.mono h.F⟩
 |.lits sz n l,v,hi,hr=>by
  simp only[RepA,AVal.ren]at hr ⊢;obtain⟨b,o,cap,cs,h1,h2,h2',h3,h4,h5,h6⟩:=hr;have:=ztd7 f l;exact⟨b,o,cap,cs,h1,h2,by rw[this.1];exact h2',RepL.ext h l cs (by simpa[AVal.ids]using hi) h3,h4.mono h.F,by rw[this.2];exact h5,h6⟩
 |.agg l,v,hi,hr=>by
  simp only[RepA,AVal.ren]at hr ⊢;obtain⟨cs,h1,h3,h5,h6⟩:=hr;have:=ztd7 f l;exact⟨cs,h1,RepL.ext h l _ (by simpa[AVal.ids]using hi) h3,by rw[this.2];exact h5,h6⟩
 |.tup l,v,hi,hr=>by
  simp only[RepA,AVal.ren]at hr ⊢;obtain⟨cs,h1,h3⟩:=hr;exact⟨cs,h1,RepL.ext h l _ (by simpa[AVal.ids]using hi) h3⟩
 |.fn g l,v,hi,hr=>by
  simp only[RepA,AVal.ren]at hr ⊢;obtain⟨cs,h1,h3⟩:=hr;exact⟨cs,h1,RepL.ext h l _ (by simpa[AVal.ids]using hi) h3⟩
 |.bref y id,v,hi,hr=>by
  simp only[RepA,AVal.ren]at hr ⊢;obtain⟨b,h1,h2⟩:=hr;exact⟨b,h.blk id b (hi id (by simp[AVal.ids])) h1,h2⟩
theorem RepL.ext {f:Id→Id} {D:Id→Prop} {C C':Ctx} (h:Ext f D C C'):∀(l:List AVal) (cs:List Value),(∀id∈AVal.idsL l,D id)→RepL C l cs→RepL C' (AVal.renL f l) cs
 |[],cs,hi,hr=>by simpa only[RepL,AVal.renL]using hr
 |a::r,cs,hi,hr=>by
  simp only[RepL,AVal.renL]at hr ⊢;obtain⟨c,cs',h1,h2,h3⟩:=hr;simp only[AVal.idsL,List.mem_append]at hi;exact⟨c,cs',h1,RepA.ext h a c (fun id hid=>hi id (.inl hid)) h2,RepL.ext h r cs' (fun id hid=>hi id (.inr hid)) h3⟩
theorem ztd7 (f:Id→Id):∀(l:List AVal),(AVal.renL f l).length=l.length∧(AVal.renL f l).all AVal.leaf=l.all AVal.leaf
 |[]=>by simp[AVal.renL]
 |a::r=>by
  have:=ztd7 f r;simp only[AVal.renL,List.length_cons,this.1,List.all_cons,this.2,true_and];cases a<;>simp[AVal.ren,AVal.leaf]
end
mutual
theorem ren_id:∀(a:AVal),a.ren (fun i=>i)=a
 |.dat d=>rfl
 |.nils=>rfl
 |.emp t=>rfl
 |.cap0=>rfl
 |.fsl l=>rfl
 |.nilp=>rfl
 |.undef=>rfl
 |.junk=>rfl
 |.ref id off=>rfl
 |.eref id ver i off=>rfl
 |.rsl id ver sz off len=>rfl
 |.fp l=>rfl
 |.lits sz n l=>by simp[AVal.ren,renL_id l]
 |.agg l=>by simp[AVal.ren,renL_id l]
 |.tup l=>by simp[AVal.ren,renL_id l]
 |.fn g l=>by simp[AVal.ren,renL_id l]
 |.bref y id=>rfl
theorem renL_id:∀(l:List AVal),AVal.renL (fun i=>i) l=l
 |[]=>rfl
 |a::r=>by simp[AVal.renL,ren_id a,renL_id r]
end
abbrev Grow (C C':Ctx):Prop:=Ext (fun i=>i) (fun _=>True) C C'
theorem RepA.grow {C C':Ctx} (h:Grow C C') {a:AVal} {v:Value} (hr:RepA C a v):RepA C' a v:=by
 have:=RepA.ext h a v (fun _ _=>trivial) hr
 rwa [ren_id]at this
theorem RepL.grow {C C':Ctx} (h:Grow C C') {l:List AVal} {cs:List Value} (hr:RepL C l cs):RepL C' l cs:=by
 have:=RepL.ext h l cs (fun _ _=>trivial) hr
 rwa [renL_id]at this
theorem Grow.refl (C:Ctx):Grow C C:=⟨fun _ _ _ h=>h,fun _ _ _ h=>h,fun _ A _ h=>⟨A,h,Nat.le_refl _,fun _=>⟨rfl,rfl,Nat.le_refl _⟩⟩,fun _ _ _ h=>h⟩
theorem Grow.trans {C C' C'':Ctx} (h:Grow C C') (h':Grow C' C''):Grow C C'':=by
 refine⟨fun b o v hv=>h'.F _ _ _ (h.F _ _ _ hv),fun id L _ hb=>h'.box id L trivial (h.box id L trivial hb),fun id A _ ha=>?_,fun id b _ hb=>h'.blk id b trivial (h.blk id b trivial hb)⟩;obtain⟨A',h1,h2,h3⟩:=h.arr id A trivial ha;obtain⟨A'',h4,h5,h6⟩:=h'.arr id A' trivial h1;refine⟨A'',h4,Nat.le_trans h2 h5,fun e=>?_⟩;obtain⟨a1,a2,a3⟩:=h3 (by omega);obtain⟨b1,b2,b3⟩:=h6 (by omega);exact⟨by rw[b1,a1],by rw[b2,a2],by omega⟩
theorem RepL.length {C:Ctx}:∀{l:List AVal} {cs:List Value},RepL C l cs→cs.length=l.length
 |[],cs,h=>by simp only[RepL]at h;simp[h]
 |a::r,cs,h=>by
  simp only[RepL]at h;obtain⟨c,cs',rfl,_,h3⟩:=h;simp[h3.length]
theorem RepL.get {C:Ctx}:∀{l:List AVal} {cs:List Value},RepL C l cs→∀{i:Nat} {a:AVal},l[i]?=some a→∃c,cs[i]?=some c∧RepA C a c
 |[],cs,h,i,a,hi=>by simp at hi
 |x::r,cs,h,i,a,hi=>by
  simp only[RepL]at h;obtain⟨c,cs',rfl,h2,h3⟩:=h;cases i with
  |zero=>simp at hi;subst hi;exact⟨c,rfl,h2⟩
  |succ i=>simp at hi;simpa using h3.get hi
theorem repL_of {C:Ctx}:∀{l:List AVal} {cs:List Value},cs.length=l.length→(∀(i:Nat) (a:AVal) (c:Value),l[i]?=some a→cs[i]?=some c→RepA C a c)→RepL C l cs
 |[],cs,hl,h=>by simp only[RepL];simpa using hl
 |x::r,[],hl,h=>by simp at hl
 |x::r,c::cs,hl,h=>by
  simp only[RepL];exact⟨c,cs,rfl,h 0 x c rfl rfl,repL_of (by simpa using hl) fun i a c hi hc=>h (i+1) a c (by simpa using hi) (by simpa using hc)⟩
theorem RepL.append {C:Ctx} {l l':List AVal} {cs cs':List Value} (h:RepL C l cs) (h':RepL C l' cs'):RepL C (l++l') (cs++cs'):=by
 induction l generalizing cs with
 |nil=>simp only[RepL]at h;subst h;simpa using h'
 |cons a r ih=>
  simp only[RepL]at h;obtain⟨c,cs'',rfl,h2,h3⟩:=h;simp only[List.cons_append,RepL];exact⟨c,cs''++cs',rfl,h2,ih h3⟩
theorem RepL.take {C:Ctx} {l:List AVal} {cs:List Value} (h:RepL C l cs) (n:Nat):RepL C (l.take n) (cs.take n):=by
 refine repL_of (by simp[h.length]) fun i a c hi hc=>?_
 rw[List.getElem?_take]at hi hc;split at hi
 ·rename_i hlt;rw[if_pos hlt]at hc;obtain⟨c',h1,h2⟩:=h.get hi;rw[hc]at h1;cases h1;exact h2
 ·cases hi
theorem RepL.drop {C:Ctx} {l:List AVal} {cs:List Value} (h:RepL C l cs) (n:Nat):RepL C (l.drop n) (cs.drop n):=by
 refine repL_of (by simp[h.length]) fun i a c hi hc=>?_
 rw[List.getElem?_drop]at hi hc;obtain⟨c',h1,h2⟩:=h.get hi;rw[hc]at h1;cases h1;exact h2
theorem repL_dat {C:Ctx}:∀{l:List Dat} {cs:List Value},AggD C.F l cs→RepL C (l.map .dat) cs
 |[],cs,h=>by simpa[AggD,RepL]using h
 |d::r,cs,h=>by
  simp only[AggD]at h;obtain⟨c,cs',rfl,h2,h3,h4⟩:=h;simp only[List.map_cons,RepL,RepA];exact⟨c,cs',rfl,zhb7 h2 h3,repL_dat h4⟩
theorem RepA.leaf {C:Ctx} {a:AVal} {v:Value} (h:RepA C a v) (ha:a.leaf=true):v.oneCell'=true∧zqc7 v=false:=by
 cases a with
 |dat d=>
  simp only[RepA]at h;simp[AVal.leaf]at ha;obtain⟨c,h1,h2,h3⟩:=(h.cell ha).leaf ha;simp at h1;subst h1;exact⟨h2,h3⟩
 |nils=>simp only[RepA]at h;subst h;exact⟨rfl,rfl⟩
 |emp t=>simp only[RepA]at h;obtain⟨a,cap,rfl,_⟩:=h;exact⟨rfl,rfl⟩
 |cap0=>simp only[RepA]at h;obtain⟨a,rfl⟩:=h;exact⟨rfl,rfl⟩
 |fsl l=>simp only[RepA]at h;obtain⟨⟨a,rfl⟩,_⟩:=h;exact⟨rfl,rfl⟩
 |nilp=>simp only[RepA]at h;subst h;exact⟨rfl,rfl⟩
 |ref id off=>simp only[RepA]at h;obtain⟨L,_,rfl⟩:=h;exact⟨rfl,rfl⟩
 |eref id ver i off=>simp only[RepA]at h;obtain⟨A,a,_,_,rfl,_⟩:=h;exact⟨rfl,rfl⟩
 |rsl id ver sz off len=>simp only[RepA]at h;obtain⟨A,a,cap,_,_,rfl,_⟩:=h;exact⟨rfl,rfl⟩
 |fp l=>simp only[RepA]at h;obtain⟨b,o,cs,rfl,_⟩:=h;exact⟨rfl,rfl⟩
 |lits sz n l=>simp only[RepA]at h;obtain⟨b,o,cap,cs,rfl,_⟩:=h;exact⟨rfl,rfl⟩
 |junk=>simp only[RepA]at h;exact h
 |fn f l=>simp only[RepA]at h;obtain⟨cs,rfl,_⟩:=h;split<;>exact⟨rfl,rfl⟩
 |bref y id=>simp only[RepA]at h;obtain⟨b,_,rfl⟩:=h;cases y<;>exact⟨rfl,rfl⟩
 |agg l=>simp[AVal.leaf]at ha
 |tup l=>simp[AVal.leaf]at ha
 |undef=>simp[AVal.leaf]at ha
theorem RepA.cells {C:Ctx} {a:AVal} {v:Value} (h:RepA C a v) (ha:a.cells.all AVal.leaf=true):RepL C a.cells v.cells.toList∧∀c∈v.cells.toList,c.oneCell'=true:=by
 have single:a.cells=[a]→RepL C a.cells v.cells.toList∧∀c∈v.cells.toList,c.oneCell'=true:=by
  intro e;rw[e]at ha ⊢;obtain⟨h1,h2⟩:=h.leaf (by simpa using ha);rw[zva7 h2];simp only[RepL];exact⟨⟨v,[],rfl,h,rfl⟩,by simpa using h1⟩
 cases a with
 |dat d=>
  cases d with
  |agg l=>
   simp only[RepA]at h;obtain⟨cs,rfl,hc⟩:=h.agg;exact⟨repL_dat hc,by simpa[Value.cells]using hc.one⟩
  |_=>exact single rfl
 |agg l=>
  simp only[RepA]at h;obtain⟨cs,rfl,h1,h2,h3⟩:=h;exact⟨by simpa[Value.cells]using h1,by simpa[Value.cells]using h3⟩
 |_=>exact single rfl
end Go.Am

namespace Go.Am
variable [Glob]
abbrev Cells:=Nat→Nat→Prop
def mayOf (T:Cells):MemPlace→Prop:=fun p=>∃b o,p=.cell b o∧T b o
structure Kept (w w':World) (T:Cells):Prop where
 but:w.keptBut w' (mayOf T)
 frozen:∀a,a.block<w.heap.size→w'.frozen? a=w.frozen? a
 size:w.heap.size≤w'.heap.size
theorem Kept.refl (w:World) (T:Cells):Kept w w T:=⟨World.keptBut_refl _ _,fun _ _=>rfl,Nat.le_refl _⟩
theorem Kept.mono {w w':World} {T T':Cells} (h:Kept w w' T) (ht:∀b o,b<w.heap.size→T b o→T' b o):Kept w w' T':=by
 refine⟨⟨h.but.1,h.but.2.1,fun i hi=>?_⟩,h.frozen,h.size⟩;have:=h.but.2.2 i hi;split at this
 ·refine⟨this.1,this.2.1,this.2.2.1,fun j hj=>this.2.2.2 j fun hm=>hj ?_⟩;obtain⟨b,o,e,hT⟩:=hm;cases e;exact⟨_,_,rfl,ht _ _ hi hT⟩
 ·refine orMap this (fun hm=>?_) id;obtain⟨b,o,e,_⟩:=hm;cases e
 ·exact this
theorem Kept.cell {w w':World} {T:Cells} (h:Kept w w' T) {b o:Nat} (hb:b<w.heap.size) (hT:¬T b o):w'.cell? ⟨b,o,none⟩=w.cell? ⟨b,o,none⟩:=
 h.but.cell hb (fun ⟨_,_,e,ht⟩=>by cases e;exact hT ht)
theorem Kept.cell_some {w w':World} {T:Cells} (h:Kept w w' T) {b o:Nat} {v:Value} (hv:w.cell? ⟨b,o,none⟩=some v) (hT:¬T b o):w'.cell? ⟨b,o,none⟩=some v:=by
 rw[h.cell (by simpa using World.block_lt_of_cell? _ _ hv) hT,hv]
theorem zpc7 {w:World} {b:Nat} {c:Array Value} {t:TypeId} {fr:Nat×Nat} (h:w.heap[b]?=some (.cells c t fr)) (o:Nat):w.cell? ⟨b,o,none⟩=c[o]?:=by
 simp[World.cell?,h]
theorem Kept.some {w w':World} {T:Cells} (h:Kept w w' T) {b o:Nat} {v:Value} (hv:w.cell? ⟨b,o,none⟩=some v):∃u,w'.cell? ⟨b,o,none⟩=some u:=by
 have hb:b<w.heap.size:=by simpa using World.block_lt_of_cell? _ _ hv
 have hk:=h.but.2.2 b hb;split at hk
 ·rename_i c t fr c' t' fr' h1 h2;rw[zpc7 h1]at hv;rw[zpc7 h2]
  have:o<c'.size:=by
   have:=(Array.getElem?_eq_some_iff.1 hv).1;omega
  exact⟨c'[o],by simp[this]⟩
 ·rename_i h1 h2;simp[World.cell?,h1]at hv
 ·rename_i h1 h2;refine⟨v,?_⟩;unfold World.cell? at hv ⊢;simp only[hk];exact hv
theorem Kept.trans {w w' w'':World} {T T' U:Cells} (h:Kept w w' T) (h':Kept w' w'' T') (ht:∀b o,b<w.heap.size→T b o→U b o) (ht':∀b o,b<w.heap.size→T' b o→U b o):Kept w w'' U:=by
 refine⟨⟨h'.but.1.trans h.but.1,h'.but.2.1.trans h.but.2.1,fun i hi=>?_⟩,fun a ha=>(h'.frozen a (Nat.lt_of_lt_of_le ha h.size)).trans (h.frozen a ha),Nat.le_trans h.size h'.size⟩;have k1:=h.but.2.2 i hi;have k2:=h'.but.2.2 i (Nat.lt_of_lt_of_le hi h.size);have nm:∀{V:Cells},¬mayOf V (.map i):=fun ⟨_,_,e,_⟩=>by cases e
 cases e0:w.heap[i]? with
 |none=>simp[e0]at k1;simp[Array.getElem?_eq_none_iff]at e0;omega
 |some x0=>
  cases e1:w'.heap[i]? with
  |none=>have:=Nat.lt_of_lt_of_le hi h.size;simp[Array.getElem?_eq_none_iff]at e1;omega
  |some x1=>
   cases e2:w''.heap[i]? with
   |none=>have:=Nat.lt_of_lt_of_le hi (Nat.le_trans h.size h'.size);simp[Array.getElem?_eq_none_iff]at e2;omega
   |some x2=>
    rw[e0,e1]at k1;rw[e1,e2]at k2;cases x0 with
    |cells c t fr=>
     cases x1 with
     |cells c1 t1 fr1=>
      cases x2 with
      |cells c2 t2 fr2=>
       simp only at k1 k2 ⊢;refine⟨k2.1.trans k1.1,k2.2.1.trans k1.2.1,k2.2.2.1.trans k1.2.2.1,fun j hj=>?_⟩;rw[k2.2.2.2 j,k1.2.2.2 j]
       ·rintro⟨b,o,e,hT⟩;cases e;exact hj ⟨_,_,rfl,ht _ _ hi hT⟩
       ·rintro⟨b,o,e,hT⟩;cases e;exact hj ⟨_,_,rfl,ht' _ _ hi hT⟩
      |_=>simp at k2
     |_=>simp at k1
    |map es clock=>
     cases x1 with
     |map es1 clock1=>
      cases x2 with
      |map es2 clock2=>
       simp only at k1 k2 ⊢;have k1':=k1.resolve_left nm;have k2':=k2.resolve_left nm;exact .inr ⟨k2'.1.trans k1'.1,k2'.2.trans k1'.2⟩
      |_=>simp at k2
     |_=>simp at k1
    |_=>simp_all
theorem Kept.alloc (w:World) (c:Array Value) (t:TypeId) (T:Cells):Kept w (w.alloc (.cells c t)) T:=by
 refine⟨⟨rfl,rfl,fun i hi=>?_⟩,fun a ha=>?_,by simp⟩
 ·have:(w.alloc (.cells c t)).heap[i]?=w.heap[i]?:=by
   simp only[World.alloc,Array.getElem?_push];rw[if_neg (by omega)]
  rw[this];exact (World.keptBut_refl w _).2.2 i hi
 ·exact World.frozen?_alloc_old w _ a (Nat.ne_of_lt ha)
theorem Kept.setCells (w:World) (b o:Nat) (vs:List Value) (T:Cells) (hT:∀j,j<vs.length→T b (o+j)):Kept w (w.setCells b o vs) T:=by
 refine⟨World.keptBut_setCells b vs o w fun j hj=>⟨_,_,rfl,hT j hj⟩,fun a _=>World.frozen?_setCells b vs o w a,?_⟩
 have:∀(vs:List Value) (o:Nat) (w:World),(w.setCells b o vs).heap.size=w.heap.size:=by
  intro vs
  induction vs with
  |nil=>intro o w;rfl
  |cons v r ih=>intro o w;rw[World.setCells,ih,World.size_setCell]
 rw[this];exact Nat.le_refl _
theorem Kept.drew (w:World) (T:Cells):Kept w w.drew T:=
 ⟨⟨rfl,rfl,fun i hi=>(World.keptBut_refl w _).2.2 i hi⟩,fun _ _=>rfl,Nat.le_refl _⟩
def nc (w:World) (i:Nat):Prop:=∀c t fr,w.heap[i]?≠some (.cells c t fr)
def clause (w w':World) (T:Cells) (i:Nat):Prop:=
 (∃c c' t fr,w.heap[i]?=some (.cells c t fr)∧w'.heap[i]?=some (.cells c' t fr)∧c'.size=c.size∧∀j:Nat,¬T i j→c'[j]?=c[j]?)∨w'.heap[i]?=w.heap[i]?
structure KeptB (w w':World) (T:Cells) (M:Nat→Prop):Prop where
 os:w'.os=w.os
 output:w'.output=w.output
 but:∀i,i<w.heap.size→¬M i→clause w w' T i
 blk:∀i,i<w.heap.size→M i→nc w i∧nc w' i
 frozen:∀a,a.block<w.heap.size→w'.frozen? a=w.frozen? a
 size:w.heap.size≤w'.heap.size
theorem Kept.clause {w w':World} {T:Cells} (h:Kept w w' T) {i:Nat} (hi:i<w.heap.size):clause w w' T i:=by
 have:=h.but.2.2 i hi;split at this
 ·rename_i h1 h2;obtain⟨rfl,rfl,h3,h4⟩:=this;exact .inl ⟨_,_,_,_,h1,h2,h3,fun j hj=>h4 j fun ⟨b,o,e,ht⟩=>by cases e;exact hj ht⟩
 ·rename_i h1 h2;rcases this with⟨b,o,e,_⟩|⟨e1,e2⟩
  ·cases e
  ·right;rw[h1,h2,e1,e2]
 ·exact .inr this
theorem Kept.toB {w w':World} {T:Cells} (h:Kept w w' T):KeptB w w' T (fun _=>False):=
 ⟨h.but.1,h.but.2.1,fun i hi _=>h.clause hi,fun _ _ h=>h.elim,h.frozen,h.size⟩
theorem KeptB.kept {w w':World} {T:Cells} {M:Nat→Prop} (h:KeptB w w' T M) (hM:∀i,i<w.heap.size→¬M i):Kept w w' T:=by
 refine⟨⟨h.os,h.output,fun i hi=>?_⟩,h.frozen,h.size⟩;rcases h.but i hi (hM i hi) with⟨c,c',t,fr,h1,h2,h3,h4⟩|h1
 ·rw[h1,h2];exact⟨rfl,rfl,h3,fun j hj=>h4 j fun ht=>hj ⟨_,_,rfl,ht⟩⟩
 ·rw[h1];exact (World.keptBut_refl w _).2.2 i hi
theorem KeptB.refl (w:World) (T:Cells):KeptB w w T (fun _=>False):=(Kept.refl w T).toB
theorem nc_cell {w:World} {b:Nat} (h:nc w b) (o:Nat):w.cell? ⟨b,o,none⟩=none:=by
 unfold World.cell?;cases e:w.heap[b]? with
 |none=>simp[e]
 |some x=>cases x<;>simp_all [nc]
theorem clause_cell {w w':World} {T:Cells} {b o:Nat} (h:clause w w' T b) (hT:¬T b o):w'.cell? ⟨b,o,none⟩=w.cell? ⟨b,o,none⟩:=by
 rcases h with⟨c,c',t,fr,h1,h2,h3,h4⟩|h1
 ·rw[zpc7 h1,zpc7 h2];exact h4 o hT
 ·unfold World.cell?;simp only[h1]
theorem KeptB.cell {w w':World} {T:Cells} {M:Nat→Prop} (h:KeptB w w' T M) {b o:Nat} (hb:b<w.heap.size) (hT:¬T b o):w'.cell? ⟨b,o,none⟩=w.cell? ⟨b,o,none⟩:=by
 by_cases hM:M b
 ·rw[nc_cell (h.blk b hb hM).1,nc_cell (h.blk b hb hM).2]
 ·exact clause_cell (h.but b hb hM) hT
theorem KeptB.cell_some {w w':World} {T:Cells} {M:Nat→Prop} (h:KeptB w w' T M) {b o:Nat} {v:Value} (hv:w.cell? ⟨b,o,none⟩=some v) (hT:¬T b o):w'.cell? ⟨b,o,none⟩=some v:=by
 rw[h.cell (by simpa using World.block_lt_of_cell? _ _ hv) hT,hv]
theorem KeptB.heap {w w':World} {T:Cells} {M:Nat→Prop} (h:KeptB w w' T M) {b:Nat} {o:Go.Obj} (ho:w.heap[b]?=some o) (hn:nc w b) (hM:¬M b):w'.heap[b]?=some o:=by
 have hb:b<w.heap.size:=(Array.getElem?_eq_some_iff.1 ho).1;rcases h.but b hb hM with⟨c,c',t,fr,h1,_⟩|h1
 ·exact absurd h1 (hn _ _ _)
 ·rw[h1,ho]
theorem clause_nc {w w':World} {T:Cells} {b:Nat} (h:clause w w' T b) (hn:nc w b):nc w' b:=by
 rcases h with⟨c,c',t,fr,h1,_⟩|h1
 ·exact absurd h1 (hn _ _ _)
 ·intro c t fr e;rw[h1]at e;exact hn _ _ _ e
theorem KeptB.ncs {w w':World} {T:Cells} {M:Nat→Prop} (h:KeptB w w' T M) {b:Nat} (hb:b<w.heap.size) (hn:nc w b):nc w' b:=by
 by_cases hM:M b
 ·exact (h.blk b hb hM).2
 ·exact clause_nc (h.but b hb hM) hn
theorem KeptB.mono {w w':World} {T T':Cells} {M:Nat→Prop} (h:KeptB w w' T M) (ht:∀b o,b<w.heap.size→T b o→T' b o):KeptB w w' T' M:=by
 refine⟨h.os,h.output,fun i hi hM=>?_,h.blk,h.frozen,h.size⟩;rcases h.but i hi hM with⟨c,c',t,fr,h1,h2,h3,h4⟩|h1
 ·exact .inl ⟨c,c',t,fr,h1,h2,h3,fun j hj=>h4 j fun hx=>hj (ht _ _ hi hx)⟩
 ·exact .inr h1
theorem KeptB.trans {w w' w'':World} {T T' U:Cells} {M N V:Nat→Prop} (h:KeptB w w' T M) (h':KeptB w' w'' T' N) (ht:∀b o,b<w.heap.size→T b o→U b o) (ht':∀b o,b<w.heap.size→T' b o→U b o)
  (hM:∀b,b<w.heap.size→M b→V b) (hN:∀b,b<w.heap.size→N b→V b) (hV:∀b,b<w.heap.size→V b→nc w b):KeptB w w'' U V:=by
 refine⟨h'.os.trans h.os,h'.output.trans h.output,fun i hi hv=>?_,fun i hi hv=>?_,fun a ha=>(h'.frozen a (Nat.lt_of_lt_of_le ha h.size)).trans (h.frozen a ha),Nat.le_trans h.size h'.size⟩
 ·have k1:=h.but i hi (fun hm=>hv (hM i hi hm));have k2:=h'.but i (Nat.lt_of_lt_of_le hi h.size) (fun hn=>hv (hN i hi hn));rcases k1 with⟨c,c1,t,fr,a1,a2,a3,a4⟩|a1
  ·rcases k2 with⟨c1',c2,t',fr',b1,b2,b3,b4⟩|b1
   ·rw[a2]at b1;cases b1;exact .inl ⟨c,c2,t,fr,a1,b2,by omega,fun j hj=>by rw[b4 j (fun x=>hj (ht' _ _ hi x)),a4 j (fun x=>hj (ht _ _ hi x))]⟩
   ·exact .inl ⟨c,c1,t,fr,a1,by rw[b1,a2],a3,fun j hj=>a4 j (fun x=>hj (ht _ _ hi x))⟩
  ·rcases k2 with⟨c1',c2,t',fr',b1,b2,b3,b4⟩|b1
   ·exact .inl ⟨c1',c2,t',fr',by rw[←a1,b1],b2,b3,fun j hj=>b4 j (fun x=>hj (ht' _ _ hi x))⟩
   ·exact .inr (b1.trans a1)
 ·have hn:=hV i hi hv;exact⟨hn,h'.ncs (Nat.lt_of_lt_of_le hi h.size) (h.ncs hi hn)⟩
theorem Kept.allocN (w:World) (o:Go.Obj) (T:Cells) (ho:∀c t fr,o≠.cells c t fr):Kept w (w.alloc o) T:=by
 refine⟨⟨rfl,rfl,fun i hi=>?_⟩,fun a ha=>?_,by simp⟩
 ·have:(w.alloc o).heap[i]?=w.heap[i]?:=by
   simp only[World.alloc,Array.getElem?_push];rw[if_neg (by omega)]
  rw[this];exact (World.keptBut_refl w _).2.2 i hi
 ·exact World.frozen?_alloc_old w _ a (Nat.ne_of_lt ha)
def Obj.own:Obj→Bool
 |.arr _ _ fz _=>!fz
 |.blk _=>false
 |_=>true
def EntsOK (C:Ctx):List (Dat×AVal)→List MapEntry→Prop
 |[],ens=>ens=[]
 |e::r,ens=>∃en ens',ens=en::ens'∧RepV C.F e.1 en.key∧RepA C e.2 en.val∧EntsOK C r ens'
def codeOf:AEx→Option Code
 |.normal=>none
 |.exit id=>some (.exit id)
 |.ret=>some .ret
def BornOK (ens:Array MapEntry) (clock:Nat):Prop:=(∀x∈ens.toList,x.born<clock)∧(ens.toList.map (·.born)).Nodup
theorem bornOK_nil:BornOK #[] 0:=⟨by simp,by simp⟩
theorem BornOK.modify {ens:Array MapEntry} {clock:Nat} (h:BornOK ens clock) (i:Nat) (f:MapEntry→MapEntry) (hf:∀e,(f e).born=e.born):BornOK (ens.modify i f) clock:=by
 have e:(ens.modify i f).toList.map (·.born)=ens.toList.map (·.born):=by
  apply List.ext_getElem?;intro j;simp only[Array.toList_modify,List.getElem?_map,List.getElem?_modify];cases ens.toList[j]? with
  |none=>simp
  |some x=>by_cases hij:i=j<;>simp[hij,hf]
 have hb:∀x,x∈(ens.modify i f).toList.map (·.born)→x<clock:=by
  rw[e];intro x hx;obtain⟨y,hy,rfl⟩:=List.mem_map.1 hx;exact h.1 y hy
 exact⟨fun x hx=>hb _ (List.mem_map.2 ⟨x,hx,rfl⟩),by rw[e];exact h.2⟩
theorem BornOK.push {ens:Array MapEntry} {clock:Nat} (h:BornOK ens clock) (x:MapEntry) (hx:x.born=clock):BornOK (ens.push x) (clock+1):=by
 constructor
 ·intro y hy;simp only[Array.toList_push,List.mem_append,List.mem_singleton]at hy;rcases hy with hy|rfl
  ·have:=h.1 y hy;omega
  ·omega
 ·simp only[Array.toList_push,List.map_append,List.map_cons,List.map_nil];rw[List.nodup_append];refine⟨h.2,by simp,?_⟩;intro a ha b hb;simp only[List.mem_singleton]at hb;obtain⟨y,hy,rfl⟩:=List.mem_map.1 ha;have:=h.1 y hy;omega
def BlkOK (C:Ctx) (b:Nat):Blk→Prop
 |.map es=>∃ens clock,C.w.heap[b]?=some (.map ens clock)∧BornOK ens clock∧EntsOK C es ens.toList
 |.loop k st env=>∃r:Go.Loop,C.w.heap[b]?=some (.loop r)∧Glob.lps k=some (r.tmps.size,r.params,r.assign,r.body)∧
   (match st with|.ready=>r.state=.ready∧r.pending=none|.busy=>r.state=.busy|.done e=>r.state=.done∧r.pending=codeOf e∧e≠.normal)∧
   ∀p∈env,RepA C p.2 (r.tmps.getD p.1 undef)
 |.dead=>∃r:Go.Loop,C.w.heap[b]?=some (.loop r)
def OwnOK (C:Ctx) (L:Loc):Prop:=
 ∀j,j<L.n→(∃v,C.w.cell? ⟨L.b,L.o+j,none⟩=some v)∧(∀x,C.w.frozen? ⟨L.b,x,none⟩=false)∧C.F L.b (L.o+j)=none
def ObjOK (C:Ctx) (L:Loc):Obj→Prop
 |.box cs=>L.n=cs.length∧cs.all AVal.leaf=true∧OwnOK C L∧
   ∀(j:Nat) (a:AVal),cs[j]?=some a→∃v,C.w.cell? ⟨L.b,L.o+j,none⟩=some v∧RepA C a v
 |.arr sz ver fz es=>1≤sz∧(∃cap,L.n=cap*sz∧es.length≤cap)∧
   (fz=false→OwnOK C L∧∀(i:Nat) (d:Dat),es[i]?=some d→∃cs,cs.length=sz∧RepD C.F d cs∧∀(j:Nat) (v:Value),cs[j]?=some v→C.w.cell? ⟨L.b,L.o+i*sz+j,none⟩=some v)∧
   (fz=true→RowD C.F es L.b L.o sz)
 |.rarr sz ver es=>1≤sz∧(∃cap,L.n=cap*sz∧es.length≤cap)∧(∀row∈es,row.length=sz∧row.all AVal.leaf=true)∧OwnOK C L∧
   ∀(i:Nat) (row:List AVal),es[i]?=some row→∀(j:Nat) (a:AVal),row[j]?=some a→∃v,C.w.cell? ⟨L.b,L.o+i*sz+j,none⟩=some v∧RepA C a v
 |.blk x=>L.n=0∧BlkOK C L.b x
theorem BlkOK.nc {C:Ctx} {b:Nat} {x:Blk} (h:BlkOK C b x):b<C.w.heap.size∧nc C.w b:=by
 cases x with
 |map es=>obtain⟨ens,clock,h1,_⟩:=h;exact⟨(Array.getElem?_eq_some_iff.1 h1).1,fun c t fr e=>by rw[h1]at e;cases e⟩
 |loop k st env=>obtain⟨r,h1,_⟩:=h;exact⟨(Array.getElem?_eq_some_iff.1 h1).1,fun c t fr e=>by rw[h1]at e;cases e⟩
 |dead=>obtain⟨r,h1⟩:=h;exact⟨(Array.getElem?_eq_some_iff.1 h1).1,fun c t fr e=>by rw[h1]at e;cases e⟩
theorem EntsOK.mono {C C':Ctx} (h:Grow C C'):∀{es:List (Dat×AVal)} {ens:List MapEntry},EntsOK C es ens→EntsOK C' es ens
 |[],_,he=>he
 |e::r,ens,he=>by
  simp only[EntsOK]at he ⊢;obtain⟨en,ens',h1,h2,h3,h4⟩:=he;exact⟨en,ens',h1,h2.mono h.F,h3.grow h,EntsOK.mono h h4⟩
structure Base where
 w:World
 F:Froz
 O:Cells
 M:Nat→Prop
 ds:List Nat:=[]
structure Inv (B:Base) (C:Ctx):Prop where
 objs:∀id o,C.ρ id=some o→ObjOK C (C.μ id) o
 disj:∀id id' o o',C.ρ id=some o→C.ρ id'=some o'→o.own=true→o'.own=true→id≠id'→
  ∀j j',j<(C.μ id).n→j'<(C.μ id').n→¬((C.μ id).b=(C.μ id').b∧(C.μ id).o+j=(C.μ id').o+j')
 own:∀id o,C.ρ id=some o→o.own=true→∀j,j<(C.μ id).n→B.O (C.μ id).b ((C.μ id).o+j)∨B.w.heap.size≤(C.μ id).b
 bdisj:∀id id' x x',C.ρ id=some (.blk x)→C.ρ id'=some (.blk x')→id≠id'→(C.μ id).b≠(C.μ id').b
 bown:∀id x,C.ρ id=some (.blk x)→B.M (C.μ id).b∨B.w.heap.size≤(C.μ id).b
 kept:KeptB B.w C.w B.O B.M
 Fw:∀b o v,C.F b o=some v→C.w.cell? ⟨b,o,none⟩=some v
 Fsub:B.F.le C.F
 Fnew:∀b o v,C.F b o=some v→B.F b o=some v∨B.O b o∨B.w.heap.size≤b
theorem ObjOK.ownOK {C:Ctx} {L:Loc} {o:Obj} (h:ObjOK C L o) (ho:o.own=true):OwnOK C L:=by
 cases o with
 |box cs=>exact h.2.2.1
 |arr sz ver fz es=>
  simp only[Obj.own,Bool.not_eq_true']at ho;exact (h.2.2.1 ho).1
 |rarr sz ver es=>exact h.2.2.2.1
 |blk x=>simp[Obj.own]at ho
theorem ObjOK.keep {C C':Ctx} {L:Loc} {o:Obj} {T:Cells} {N:Nat→Prop} (h:ObjOK C L o) (hg:Grow C C') (hk:KeptB C.w C'.w T N) (hFn:∀b o v,C'.F b o=some v→C.F b o=some v∨C.w.heap.size≤b∨T b o)
  (hT:o.own=true→∀j,j<L.n→¬T L.b (L.o+j)) (hN:∀x,o=.blk x→¬N L.b):ObjOK C' L o:=by
 have hown:o.own=true→OwnOK C' L:=by
  intro ho j hj;obtain⟨⟨v,hv⟩,hf,hF⟩:=h.ownOK ho j hj;refine⟨⟨v,hk.cell_some hv (hT ho j hj)⟩,fun x=>by rw[hk.frozen ⟨L.b,x,none⟩ (by simpa using World.block_lt_of_cell? _ _ hv)];exact hf x,?_⟩;cases e:C'.F L.b (L.o+j) with
  |none=>rfl
  |some u=>
   rcases hFn _ _ _ e with h1|h1|h1
   ·rw[hF]at h1;cases h1
   ·have:=World.block_lt_of_cell? _ _ hv;simp at this;omega
   ·exact absurd h1 (hT ho j hj)
 cases o with
 |blk x=>
  obtain⟨h0,h1⟩:=h;refine⟨h0,?_⟩;have hb:=h1.nc;have hx:=hN x rfl;cases x with
  |map es=>
   obtain⟨ens,clock,e1,eb,e2⟩:=h1;exact⟨ens,clock,hk.heap e1 hb.2 hx,eb,e2.mono hg⟩
  |loop k st env=>
   obtain⟨r,e1,e2,e3,e4⟩:=h1;exact⟨r,hk.heap e1 hb.2 hx,e2,e3,fun p hp=>(e4 p hp).grow hg⟩
  |dead=>obtain⟨r,e1⟩:=h1;exact⟨r,hk.heap e1 hb.2 hx⟩
 |box cs=>
  refine⟨h.1,h.2.1,hown rfl,fun j a ha=>?_⟩;obtain⟨v,hv,hr⟩:=h.2.2.2 j a ha;have hj:j<L.n:=by rw[h.1];exact (List.getElem?_eq_some_iff.1 ha).1
  exact⟨v,hk.cell_some hv (hT rfl j hj),hr.grow hg⟩
 |rarr sz ver es=>
  obtain⟨h1,⟨cap,h2,h2'⟩,h3,h4,h5⟩:=h;refine⟨h1,⟨cap,h2,h2'⟩,h3,hown rfl,fun i row hrow j a ha=>?_⟩;obtain⟨v,hv,hr⟩:=h5 i row hrow j a ha;have hi:i<es.length:=(List.getElem?_eq_some_iff.1 hrow).1;have hj:j<sz:=by rw[←(h3 row (List.mem_of_getElem? hrow)).1];exact (List.getElem?_eq_some_iff.1 ha).1
  have hlt:i*sz+j<L.n:=by
   rw[h2]
   calc i*sz+j<i*sz+sz:=by omega
    _=(i+1)*sz:=by rw[Nat.add_mul];omega
    _≤cap*sz:=Nat.mul_le_mul_right _ (by omega)
  have:=hT rfl (i*sz+j) hlt;exact⟨v,hk.cell_some hv (by rwa [Nat.add_assoc]),hr.grow hg⟩
 |arr sz ver fz es=>
  obtain⟨h1,⟨cap,h2,h2'⟩,h3,h4⟩:=h;refine⟨h1,⟨cap,h2,h2'⟩,fun e=>?_,fun e=>RowD.mono hg.F _ _ _ _ (h4 e)⟩;have ho:(Obj.arr sz ver fz es).own=true:=by simp[Obj.own,e]
  refine⟨hown ho,fun i d hd=>?_⟩;obtain⟨cs,h5,h6,h7⟩:=(h3 e).2 i d hd;refine⟨cs,h5,RepD.mono hg.F _ _ h6,fun j v hv=>?_⟩;have hi:i<es.length:=(List.getElem?_eq_some_iff.1 hd).1;have hj:j<sz:=by rw[←h5];exact (List.getElem?_eq_some_iff.1 hv).1
  have hlt:i*sz+j<L.n:=by
   rw[h2]
   calc i*sz+j<i*sz+sz:=by omega
    _=(i+1)*sz:=by rw[Nat.add_mul];omega
    _≤cap*sz:=Nat.mul_le_mul_right _ (by omega)
  have:=hT ho (i*sz+j) hlt;exact hk.cell_some (h7 j v hv) (by rwa [Nat.add_assoc])
theorem Inv.stepB {B:Base} {C C':Ctx} (h:Inv B C) (id:Id) (T:Cells) (N:Nat→Prop)
  (hT:∀b o,T b o→∃ob,C.ρ id=some ob∧ob.own=true∧∃j,j<(C.μ id).n∧b=(C.μ id).b∧o=(C.μ id).o+j)
  (hk:KeptB C.w C'.w T N)
  (hN:∀b,N b→∃x,C.ρ id=some (.blk x)∧b=(C.μ id).b)
  (hFn:∀b o v,C'.F b o=some v→C.F b o=some v∨C.w.heap.size≤b∨T b o)
  (hFw:∀b o v,C'.F b o=some v→C.F b o=none→C'.w.cell? ⟨b,o,none⟩=some v)
  (hρ:∀id',id'≠id→C'.ρ id'=C.ρ id'∧C'.μ id'=C.μ id')
  (hg:Grow C C')
  (hnew:∀o',C'.ρ id=some o'→ObjOK C' (C'.μ id) o')
  (hloc:∀o',C'.ρ id=some o'→o'.own=true→C.w.heap.size≤(C'.μ id).b∨(C'.μ id).n=0∨(∃o,C.ρ id=some o∧o.own=true∧C'.μ id=C.μ id))
  (hblk:∀x,C'.ρ id=some (.blk x)→C.w.heap.size≤(C'.μ id).b∨(∃x',C.ρ id=some (.blk x')∧C'.μ id=C.μ id)):
  Inv B C':=by
 have blkLt:∀id x,C.ρ id=some (.blk x)→(C.μ id).b<C.w.heap.size∧nc C.w (C.μ id).b:=fun id x hx=>(h.objs id _ hx).2.nc
 have cellOf:∀id o,C.ρ id=some o→o.own=true→∀j,j<(C.μ id).n→(C.μ id).b<C.w.heap.size:=by
  intro id o ho hw j hj;obtain⟨⟨v,hv⟩,_⟩:=(h.objs id o ho).ownOK hw j hj;simpa using World.block_lt_of_cell? _ _ hv
 have notT:∀id' o',id'≠id→C.ρ id'=some o'→o'.own=true→∀j,j<(C.μ id').n→¬T (C.μ id').b ((C.μ id').o+j):=by
  intro id' o' hne ho' hw' j hj hTT;obtain⟨ob,ho,hw,j0,hj0,hb,hoo⟩:=hT _ _ hTT;exact h.disj id' id o' ob ho' ho hw' hw hne j j0 hj hj0 ⟨hb,hoo⟩
 have TF:∀b o,T b o→C.F b o=none:=by
  intro b o hTT;obtain⟨ob,ho,hw,j0,hj0,rfl,rfl⟩:=hT _ _ hTT;exact ((h.objs id ob ho).ownOK hw j0 hj0).2.2
 have TO:∀b o,T b o→B.O b o∨B.w.heap.size≤b:=by
  intro b o hTT;obtain⟨ob,ho,hw,j0,hj0,rfl,rfl⟩:=hT _ _ hTT;exact h.own id ob ho hw j0 hj0
 refine⟨fun id' o' ho'=>?_,fun i1 i2 o1 o2 ho1 ho2 hw1 hw2 hne j1 j2 hj1 hj2=>?_,fun id' o' ho' hw' j hj=>?_,fun i1 i2 x1 x2 hx1 hx2 hne=>?_,fun i x hx=>?_,?_,fun b o v hv=>?_,fun b o v hv=>hg.F _ _ _ (h.Fsub _ _ _ hv),fun b o v hv=>?_⟩
 ·by_cases e:id'=id
  ·subst e;exact hnew o' ho'
  ·obtain⟨e1,e2⟩:=hρ id' e;rw[e1]at ho';rw[e2];refine (h.objs id' o' ho').keep hg hk hFn (fun hw=>notT id' o' e ho' hw) fun x hx hNx=>?_
   subst hx;obtain⟨x',h1,h2⟩:=hN _ hNx;exact h.bdisj id' id x x' ho' h1 e h2
 ·by_cases e1:i1=id
  ·have e2:i2≠id:=fun e2=>hne (e1.trans e2.symm)
   obtain⟨q1,q2⟩:=hρ i2 e2;rw[q1]at ho2;rw[q2]at hj2 ⊢;subst e1;rcases hloc o1 ho1 hw1 with hl|hl|⟨o,hl1,hl2,hl3⟩
   ·intro ⟨hb,_⟩;have:=cellOf i2 o2 ho2 hw2 j2 hj2;omega
   ·omega
   ·rw[hl3]at hj1 ⊢;exact h.disj i1 i2 o o2 hl1 ho2 hl2 hw2 hne j1 j2 hj1 hj2
  ·obtain⟨q1,q2⟩:=hρ i1 e1;rw[q1]at ho1;rw[q2]at hj1 ⊢;by_cases e2:i2=id
   ·subst e2;rcases hloc o2 ho2 hw2 with hl|hl|⟨o,hl1,hl2,hl3⟩
    ·intro ⟨hb,_⟩;have:=cellOf i1 o1 ho1 hw1 j1 hj1;omega
    ·omega
    ·rw[hl3]at hj2 ⊢;exact h.disj i1 i2 o1 o ho1 hl1 hw1 hl2 hne j1 j2 hj1 hj2
   ·obtain⟨q3,q4⟩:=hρ i2 e2;rw[q3]at ho2;rw[q4]at hj2 ⊢;exact h.disj i1 i2 o1 o2 ho1 ho2 hw1 hw2 hne j1 j2 hj1 hj2
 ·by_cases e:id'=id
  ·subst e;rcases hloc o' ho' hw' with hl|hl|⟨o,hl1,hl2,hl3⟩
   ·exact .inr (Nat.le_trans h.kept.size hl)
   ·omega
   ·rw[hl3]at hj ⊢;exact h.own id' o hl1 hl2 j hj
  ·obtain⟨q1,q2⟩:=hρ id' e;rw[q1]at ho';rw[q2]at hj ⊢;exact h.own id' o' ho' hw' j hj
 ·by_cases e1:i1=id
  ·have e2:i2≠id:=fun e2=>hne (e1.trans e2.symm)
   obtain⟨q1,q2⟩:=hρ i2 e2;rw[q1]at hx2;rw[q2];subst e1;rcases hblk x1 hx1 with hl|⟨x',hl1,hl2⟩
   ·have:=(blkLt i2 x2 hx2).1;omega
   ·rw[hl2];exact h.bdisj i1 i2 x' x2 hl1 hx2 hne
  ·obtain⟨q1,q2⟩:=hρ i1 e1;rw[q1]at hx1;rw[q2];by_cases e2:i2=id
   ·subst e2;rcases hblk x2 hx2 with hl|⟨x',hl1,hl2⟩
    ·have:=(blkLt i1 x1 hx1).1;omega
    ·rw[hl2];exact h.bdisj i1 i2 x1 x' hx1 hl1 hne
   ·obtain⟨q3,q4⟩:=hρ i2 e2;rw[q3]at hx2;rw[q4];exact h.bdisj i1 i2 x1 x2 hx1 hx2 hne
 ·by_cases e:i=id
  ·subst e;rcases hblk x hx with hl|⟨x',hl1,hl2⟩
   ·exact .inr (Nat.le_trans h.kept.size hl)
   ·rw[hl2];exact h.bown i x' hl1
  ·obtain⟨q1,q2⟩:=hρ i e;rw[q1]at hx;rw[q2];exact h.bown i x hx
 ·refine h.kept.trans hk (fun _ _ _ h=>h) (fun b o hb hTT=>?_) (fun _ _ h=>h) (fun b hb hNb=>?_) fun b hb hM=>(h.kept.blk b hb hM).1
  ·rcases TO b o hTT with h1|h1
   ·exact h1
   ·omega
  ·obtain⟨x,h1,h2⟩:=hN b hNb;rcases h.bown id x h1 with h3|h3
   ·rw[h2];exact h3
   ·omega
 ·cases e:C.F b o with
  |none=>exact hFw b o v hv e
  |some u=>
   have:=hg.F _ _ _ e;rw[hv]at this;cases this;exact hk.cell_some (h.Fw _ _ _ e) (fun hTT=>by rw[TF _ _ hTT]at e;cases e)
 ·rcases hFn b o v hv with h1|h1|h1
  ·exact h.Fnew _ _ _ h1
  ·exact .inr (.inr (Nat.le_trans h.kept.size h1))
  ·exact .inr (TO _ _ h1)
theorem Inv.step {B:Base} {C C':Ctx} (h:Inv B C) (id:Id) (T:Cells)
  (hT:∀b o,T b o→∃ob,C.ρ id=some ob∧ob.own=true∧∃j,j<(C.μ id).n∧b=(C.μ id).b∧o=(C.μ id).o+j)
  (hk:Kept C.w C'.w T)
  (hFn:∀b o v,C'.F b o=some v→C.F b o=some v∨C.w.heap.size≤b∨T b o)
  (hFw:∀b o v,C'.F b o=some v→C.F b o=none→C'.w.cell? ⟨b,o,none⟩=some v)
  (hρ:∀id',id'≠id→C'.ρ id'=C.ρ id'∧C'.μ id'=C.μ id')
  (hg:Grow C C')
  (hnew:∀o',C'.ρ id=some o'→ObjOK C' (C'.μ id) o')
  (hloc:∀o',C'.ρ id=some o'→o'.own=true→C.w.heap.size≤(C'.μ id).b∨(C'.μ id).n=0∨(∃o,C.ρ id=some o∧o.own=true∧C'.μ id=C.μ id))
  (hblk:∀x,C'.ρ id=some (.blk x)→C.w.heap.size≤(C'.μ id).b∨(∃x',C.ρ id=some (.blk x')∧C'.μ id=C.μ id)):
  Inv B C':=
 h.stepB id T (fun _=>False) hT hk.toB (fun _ h=>h.elim) hFn hFw hρ hg hnew hloc hblk
theorem Inv.plain {B:Base} {C C':Ctx} (h:Inv B C) (hk:Kept C.w C'.w (fun _ _=>False))
  (hF:C.F.le C'.F) (hFn:∀b o v,C'.F b o=some v→C.F b o=some v∨C.w.heap.size≤b)
  (hFw:∀b o v,C'.F b o=some v→C.F b o=none→C'.w.cell? ⟨b,o,none⟩=some v)
  (hρ:C'.ρ=C.ρ) (hμ:C'.μ=C.μ):Inv B C'∧Grow C C':=by
 have hg:Grow C C':=⟨hF,fun id L _ hb=>by simpa[boxAt,hρ,hμ]using hb,fun id A _ ha=>⟨A,by simpa[arrAt,hρ,hμ]using ha,Nat.le_refl _,fun _=>⟨rfl,rfl,Nat.le_refl _⟩⟩,fun id b _ hb=>by simpa[blkAt,hρ,hμ]using hb⟩;refine⟨?_,hg⟩;refine h.step ((0,0),0,0) (fun _ _=>False) (fun _ _ h=>h.elim) hk (fun b o v hv=>orMap (hFn b o v hv) id .inl) hFw (fun _ _=>by simp[hρ,hμ]) hg ?_ ?_ fun x hx=>.inr ⟨x,by rw[←hρ];exact hx,by rw[hμ]⟩
 ·intro o' ho';rw[hρ]at ho';rw[hμ];exact (h.objs _ o' ho').keep hg hk.toB (fun b o v hv=>orMap (hFn b o v hv) id .inl) (fun _ _ _=>id) (fun _ _ h=>h)
 ·intro o' ho' hw';rw[hρ]at ho';exact .inr (.inr ⟨o',ho',hw',by rw[hμ]⟩)
theorem Inv.drew {B:Base} {C:Ctx} (h:Inv B C):Inv B { C with w:=C.w.drew }∧Grow C { C with w:=C.w.drew }:=
 h.plain (C':={ C with w:=C.w.drew }) (Kept.drew _ _) (fun _ _ _ h=>h) (fun _ _ _ h=>.inl h) (fun b o v hv e=>by simp only at hv;rw[e]at hv;cases hv) rfl rfl
def Froz.add (F:Froz) (b:Nat) (cs:List Value):Froz:=fun b' o=>if b'=b then cs[o]? else F b' o
theorem Inv.allocF {B:Base} {C:Ctx} (h:Inv B C) (cs:Array Value) (t:TypeId):
  let C':Ctx:={ C with w:=C.w.alloc (.cells cs t),F:=C.F.add C.w.heap.size cs.toList }
  Inv B C'∧Grow C C':=by
 have hnone:∀o,C.F C.w.heap.size o=none:=by
  intro o;cases e:C.F C.w.heap.size o with
  |none=>rfl
  |some v=>have:=World.block_lt_of_cell? _ _ (h.Fw _ _ _ e);simp at this
 refine h.plain (C':={ C with w:=C.w.alloc (.cells cs t),F:=C.F.add C.w.heap.size cs.toList }) (Kept.alloc _ _ _ _) (fun b o v hv=>?_) (fun b o v hv=>?_) (fun b o v hv e=>?_) rfl rfl
 ·simp only[Froz.add];split
  ·rename_i e;subst e;rw[hnone]at hv;cases hv
  ·exact hv
 ·simp only[Froz.add]at hv;split at hv
  ·rename_i e;subst e;exact .inr (Nat.le_refl _)
  ·exact .inl hv
 ·simp only[Froz.add]at hv;split at hv
  ·rename_i e';subst e';simpa using hv
  ·rw[e]at hv;cases hv
theorem cellsAt_add (F:Froz) (b:Nat) (cs:List Value):cellsAt (F.add b cs) b 0 cs:=by
 intro j v hj;simp[Froz.add,hj]
theorem newVer_lt {ρ:Look} {id:Id} {nv:Nat} (h:zwa7 ρ id=some nv):(∀cs,ρ id≠some (.box cs))∧(∀sz v fz es,ρ id=some (.arr sz v fz es)→v<nv)∧(∀sz v es,ρ id=some (.rarr sz v es)→v<nv)∧(∀x,ρ id≠some (.blk x)):=by
 unfold zwa7 at h;cases e:ρ id with
 |none=>simp
 |some o=>
  cases o with
  |box cs=>simp[e]at h
  |arr sz v fz es=>
   simp[e]at h;refine⟨by simp,fun sz' v' fz' es' q=>?_,by simp,by simp⟩;cases q;omega
  |blk x=>simp[e]at h
  |rarr sz v es=>
   simp[e]at h;refine⟨by simp,by simp,fun sz' v' es' q=>?_,by simp⟩;cases q;omega
theorem Inv.allocO {B:Base} {C:Ctx} (h:Inv B C) (w':World) (hk:Kept C.w w' (fun _ _=>False)) (id:Id) (o:Obj) (L:Loc)
  (hold:(∀cs,C.ρ id≠some (.box cs))∧(∀x,C.ρ id≠some (.blk x))∧∀A,arrAt C id=some A→match o with
   |.box _=>False
   |.arr _ v _ _=>A.ver<v
   |.rarr _ v _=>A.ver<v
   |.blk _=>False)
  (hL:C.w.heap.size≤L.b∨L.n=0) (hB:∀x,o=.blk x→C.w.heap.size≤L.b)
  (hobj:∀(C':Ctx),C'.w=w'→C'.F=C.F→Grow C C'→ObjOK C' L o):
  let C':Ctx:={ w:=w',F:=C.F,μ:=fun i=>if i=id then L else C.μ i,ρ:=fun i=>if i=id then some o else C.ρ i }
  Inv B C'∧Grow C C'∧C'.ρ=updL C.ρ [(id,o)]:=by
 intro C'
 have hg:Grow C C':=by
  refine⟨fun _ _ _ h=>h,fun i M _ hb=>?_,fun i A _ ha=>?_,fun i b _ hb=>?_⟩
  ·by_cases e:i=id
   ·subst e;unfold boxAt at hb;cases e':C.ρ i with
    |none=>simp[e']at hb
    |some ob=>cases ob<;>simp[e']at hb;exact absurd e' (hold.1 _)
   ·simpa[boxAt,C',e]using hb
  ·by_cases e:i=id
   ·subst e;have:=hold.2.2 A ha;cases o with
    |box cs=>exact this.elim
    |blk x=>exact this.elim
    |arr sz v fz es=>exact⟨⟨v,sz,es.length,L⟩,by simp[arrAt,C'],Nat.le_of_lt this,fun e=>absurd e (by simp only at this ⊢;omega)⟩
    |rarr sz v es=>exact⟨⟨v,sz,es.length,L⟩,by simp[arrAt,C'],Nat.le_of_lt this,fun e=>absurd e (by simp only at this ⊢;omega)⟩
   ·exact⟨A,by simpa[arrAt,C',e]using ha,Nat.le_refl _,fun _=>⟨rfl,rfl,Nat.le_refl _⟩⟩
  ·by_cases e:i=id
   ·subst e;unfold blkAt at hb;cases e':C.ρ i with
    |none=>simp[e']at hb
    |some ob=>cases ob<;>simp[e']at hb;exact absurd e' (hold.2.1 _)
   ·simpa[blkAt,C',e]using hb
 refine⟨?_,hg,?_⟩
 ·refine h.step id (fun _ _=>False) (fun _ _ h=>h.elim) hk (fun b o v hv=>.inl hv) (fun b o v hv e=>by simp only[C']at hv;rw[e]at hv;cases hv) (fun i hi=>by simp[C',hi]) hg ?_ ?_ fun x hx=>.inl ?_
  ·intro o' ho';have:o'=o:=by simpa[C']using ho'.symm
   subst this;have e:C'.μ id=L:=by simp[C']
   rw[e];exact hobj C' rfl rfl hg
  ·intro o' _ _;have e:C'.μ id=L:=by simp[C']
   rw[e];exact orMap hL (fun x=>x) .inl
  ·have e:C'.μ id=L:=by simp[C']
   rw[e];exact hB x (by simpa[C']using hx)
 ·funext i;by_cases e:i=id
  ·subst e;simp[C',updL]
  ·have e':¬id=i:=fun x=>e x.symm
   simp[C',updL,e,e']
end Go.Am
