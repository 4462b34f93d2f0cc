/- Parts of the proofs of the statement, joined and made short: AmCall. -/
import Derived.Test.YtmoibjjpfemgjaaGreatDoorP12
set_option linter.unusedVariables false
set_option linter.unusedSimpArgs false
set_option linter.unusedSectionVars false
namespace Go.Am
variable [Glob]
theorem zvd7 (ρ:TLook):∀(n:Nat) (todo done res:List RId),collect ρ n todo done=some res→done.Nodup→(∀i∈done,∃o,ρ i=some o∧∀j∈o.rids,j∈done∨j∈todo)→
  res.Nodup∧(∀i∈done,i∈res)∧(∀i∈todo,i∈res)∧(∀i∈res,∃o,ρ i=some o∧∀j∈o.rids,j∈res)∧∃l,res=done++l
 |0,todo,done,res,h,_,_=>by simp[collect]at h
 |n+1,[],done,res,h,hn,hc=>by
  simp only[collect,Option.some.injEq]at h;subst h;refine⟨hn,fun _ h=>h,by simp,fun i hi=>?_,[],by simp⟩;obtain⟨o,h1,h2⟩:=hc i hi;exact⟨o,h1,fun j hj=>(h2 j hj).resolve_right (by simp)⟩
 |n+1,id::todo,done,res,h,hn,hc=>by
  simp only[collect]at h;split at h
  ·rename_i hid
   obtain⟨r1,r2,r3,r4,r5⟩:=zvd7 ρ n todo done res h hn (fun i hi=>by
    obtain⟨o,h1,h2⟩:=hc i hi;refine⟨o,h1,fun j hj=>?_⟩;rcases h2 j hj with h3|h3
    ·exact .inl h3
    ·cases h3 with
     |head=>exact .inl hid
     |tail _ h3=>exact .inr h3)
   refine⟨r1,r2,fun i hi=>?_,r4,r5⟩;cases hi with
   |head=>exact r2 _ hid
   |tail _ hi=>exact r3 i hi
  ·rename_i hid;split at h
   ·cases h
   ·rename_i o ho
    obtain⟨r1,r2,r3,r4,l,r5⟩:=zvd7 ρ n (todo++o.rids) (done++[id]) res h (by
     rw[List.nodup_append];exact⟨hn,by simp,fun a ha b hb=>by simp at hb;subst hb;intro e;subst e;exact hid ha⟩) (fun i hi=>by
     rcases List.mem_append.1 hi with hi|hi
     ·obtain⟨o',h1,h2⟩:=hc i hi;refine⟨o',h1,fun j hj=>?_⟩;rcases h2 j hj with h3|h3
      ·exact .inl (List.mem_append.2 (.inl h3))
      ·cases h3 with
       |head=>exact .inl (by simp)
       |tail _ h3=>exact .inr (List.mem_append.2 (.inl h3))
     ·simp at hi;subst hi;exact⟨o,ho,fun j hj=>.inr (List.mem_append.2 (.inr hj))⟩)
    refine⟨r1,fun i hi=>r2 i (List.mem_append.2 (.inl hi)),fun i hi=>?_,r4,[id]++l,by simp[r5]⟩;cases hi with
    |head=>exact r2 _ (by simp)
    |tail _ hi=>exact r3 i (List.mem_append.2 (.inl hi))
theorem zgf7 {ρ:TLook}:∀{order:List RId} {os:List TObj},gather ρ order=some os→os.length=order.length∧∀(j:Nat) (i:RId),order[j]?=some i→os[j]?=ρ i
 |[],os,h=>by simp[gather]at h;subst h;simp
 |id::r,os,h=>by
  simp only[gather]at h;split at h
  ·rename_i o os' ho hos;simp only[Option.some.injEq]at h;subst h;obtain⟨h1,h2⟩:=zgf7 hos;refine⟨by simp[h1],fun j i hj=>?_⟩;cases j with
   |zero=>simp at hj;subst hj;simp[ho]
   |succ j=>simp at hj;simpa using h2 j i hj
  ·cases h
theorem zkc7:∀{order:List RId} {i:RId},i∈order→order[zyb7 order i]?=some i
 |[],i,h=>by simp at h
 |k::r,i,h=>by
  simp only[zyb7];split
  ·rename_i e;subst e;rfl
  ·rename_i e
   have:i∈r:=by
    cases h with
    |head=>exact absurd rfl e
    |tail _ h=>exact h
   simpa using zkc7 this
theorem indexIn_lt {order:List RId} {i:RId} (h:i∈order):zyb7 order i<order.length:=(List.getElem?_eq_some_iff.1 (zkc7 h)).1
theorem zee7 {order:List RId} (hn:order.Nodup):∀{j:Nat} {i:RId},order[j]?=some i→zyb7 order i=j:=by
 intro j i h;have h1:=zkc7 (List.mem_of_getElem? h);have h2:=(List.getElem?_eq_some_iff.1 h);have h3:=(List.getElem?_eq_some_iff.1 h1);obtain⟨l2,e2⟩:=h2;obtain⟨l3,e3⟩:=h3;exact (List.getElem_inj hn).1 (e3.trans e2.symm)
def OwnSet (C:Ctx):Cells:=fun b x=>∃id o,C.ρ id=some o∧o.own=true∧∃j,j<(C.μ id).n∧b=(C.μ id).b∧x=(C.μ id).o+j
def OwnBlk (C:Ctx):Nat→Prop:=fun b=>∃id x,C.ρ id=some (.blk x)∧(C.μ id).b=b
abbrev baseOf (C:Ctx):Base:=⟨C.w,C.F,OwnSet C,OwnBlk C,[]⟩
def zpa7 (os:List TObj):TLook:=fun id=>if id.1=0 then os[id.2]? else none
def PostOK (C:Ctx) (os:List TObj) (v:AVal) (os':List TObj) (e:Ending) (w':World):Prop:=
 ∃val C',e=.returned val∧C'.w=w'∧C'.ρ=flat (zpa7 os')∧Inv (baseOf C) C'∧RepA C' v val∧
  Ext (fun i=>i) (fun id=>id.1.1=0∧id.1.2<os.length) C C'
def CallOK (P:Program) (f:FuncId) (args:List AVal) (os:List TObj) (v:AVal) (os':List TObj):Prop:=
 ∀(C:Ctx) (vals:Array Value),C.ρ=flat (zpa7 os)→GlobOK C.F→Inv (baseOf C) C→RepL C args vals.toList→
  Calls P f vals C.w (PostOK C os v os')
def YieldOK (P:Program) (args:List AVal) (os:List TObj) (v:AVal) (os':List TObj):Prop:=
 ∀(C:Ctx) (vals:Array Value) (l:Nat),C.ρ=flat (zpa7 os)→GlobOK C.F→Inv (baseOf C) C→RepL C args (vals.push (.func (.yield l) #[] #[])).toList→
  ∃f tmps assign body,(Instr.yield l vals).run P C.w=.ok (.round l f tmps assign body) C.w∧RoundIn Fence.wide 0 P l f tmps assign body C.w (PostOK C os v os')
def zae7 (P:Program) (K:Orc):Prop:=∀f args os v os',K f args os=some (v,os')→(f≠YID∧zkb7 P f=true∧CallOK P f args os v os')∨(f=YID∧zkb7 P f=false∧YieldOK P args os v os')
theorem renL_get (f:Id→Id):∀(l:List AVal) (j:Nat),(AVal.renL f l)[j]?=(l[j]?).map (AVal.ren f)
 |[],j=>by simp[AVal.renL]
 |a::r,0=>by simp[AVal.renL]
 |a::r,j+1=>by simp[AVal.renL,renL_get f r j]
theorem idsL_get:∀{l:List AVal} {j:Nat} {a:AVal},l[j]?=some a→∀i∈a.ids,i∈AVal.idsL l
 |[],j,a,h,i,hi=>by simp at h
 |b::r,0,a,h,i,hi=>by simp at h;subst h;simp[AVal.idsL,hi]
 |b::r,j+1,a,h,i,hi=>by simp at h;simp[AVal.idsL,idsL_get h i hi]
theorem own_ren (f:Id→Id) (o:Obj):(o.ren f).own=o.own:=by
 cases o
 case blk x=>cases x<;>rfl
 all_goals rfl
theorem zse7 {f:Id→Id} {o:Obj} {x:Blk} (h:o.ren f=.blk x):∃x',o=.blk x':=by
 cases o
 case blk x'=>exact⟨x',rfl⟩
 all_goals (simp[Obj.ren]at h)
theorem zoe7 {C C':Ctx} {i j:Id} {f:Id→Id} (h:C'.ρ j=(C.ρ i).map (Obj.ren f)) (hm:C'.μ j=C.μ i):boxAt C' j=boxAt C i∧arrAt C' j=arrAt C i∧blkAt C' j=blkAt C i:=by
 unfold boxAt arrAt blkAt;rw[h,hm];cases e:C.ρ i with
 |none=>simp
 |some ob=>
  cases ob
  case blk x=>cases x<;>simp[Obj.ren]
  all_goals simp[Obj.ren]
theorem KeptB.reflM {w:World} {T:Cells} {M:Nat→Prop} (hM:∀b,M b→nc w b):KeptB w w T M:=
 ⟨rfl,rfl,fun _ _ _=>.inr rfl,fun b _ h=>⟨hM b h,hM b h⟩,fun _ _=>rfl,Nat.le_refl _⟩
theorem EntsOK.ren {C C':Ctx} {f:Id→Id} {D:Id→Prop} (he:Ext f D C C') (hF:C'.F=C.F):∀{es:List (Dat×AVal)} {ens:List MapEntry},EntsOK C es ens→(∀i∈AVal.idsL (es.map (·.2)),D i)→EntsOK C' (es.map fun p=>(p.1,p.2.ren f)) ens
 |[],ens,h,_=>h
 |e::r,ens,h,hi=>by
  simp only[EntsOK,List.map_cons]at h ⊢;obtain⟨en,ens',h1,h2,h3,h4⟩:=h;simp only[List.map_cons,AVal.idsL,List.mem_append]at hi;exact⟨en,ens',h1,by rw[hF];exact h2,RepA.ext he e.2 _ (fun i hi'=>hi i (.inl hi')) h3,EntsOK.ren he hF h4 fun i hi'=>hi i (.inr hi')⟩
theorem ObjOK.ren {C C':Ctx} {f:Id→Id} {D:Id→Prop} {L:Loc} {o:Obj} (h:ObjOK C L o) (he:Ext f D C C') (hw:C'.w=C.w) (hF:C'.F=C.F) (hi:∀i∈o.ids,D i):ObjOK C' L (o.ren f):=by
 have hown:OwnOK C L→OwnOK C' L:=fun ho j hj=>by rw[hw,hF];exact ho j hj
 cases o with
 |blk x=>
  cases x with
  |map es=>
   obtain⟨h0,ens,clock,h1,hb,h2⟩:=h;exact⟨h0,ens,clock,by rw[hw];exact h1,hb,h2.ren he hF hi⟩
  |loop k st env=>
   obtain⟨h0,r,h1,h2,h3,h4⟩:=h;refine⟨h0,r,by rw[hw];exact h1,h2,h3,fun p hp=>?_⟩;obtain⟨q,hq,rfl⟩:=List.mem_map.1 hp;refine RepA.ext he q.2 _ (fun i hi'=>hi i ?_) (h4 q hq);obtain⟨n,hn⟩:=List.getElem?_of_mem (List.mem_map_of_mem (f:=fun x:Nat×AVal=>x.2) hq);exact idsL_get hn i hi'
  |dead=>
   obtain⟨h0,r,h1⟩:=h;exact⟨h0,r,by rw[hw];exact h1⟩
 |box cs=>
  refine⟨by rw[(ztd7 f cs).1];exact h.1,by rw[(ztd7 f cs).2];exact h.2.1,hown h.2.2.1,fun j a ha=>?_⟩;rw[renL_get]at ha;obtain⟨b,hb,rfl⟩:=zda7 ha;obtain⟨v,hv,hr⟩:=h.2.2.2 j b hb;exact⟨v,by rw[hw];exact hv,RepA.ext he b v (fun i hib=>hi i (idsL_get hb i hib)) hr⟩
 |rarr sz ver es=>
  obtain⟨h1,⟨cap,h2,h2'⟩,h3,h4,h5⟩:=h;refine⟨h1,⟨cap,h2,by simpa using h2'⟩,fun row hr=>?_,hown h4,fun i row hrow j a ha=>?_⟩
  ·obtain⟨row',hr',rfl⟩:=List.mem_map.1 hr;rw[(ztd7 f row').1,(ztd7 f row').2];exact h3 row' hr'
  ·rw[List.getElem?_map]at hrow;obtain⟨row',hrow',rfl⟩:=zda7 hrow;rw[renL_get]at ha;obtain⟨b,hb,rfl⟩:=zda7 ha;obtain⟨v,hv,hr⟩:=h5 i row' hrow' j b hb;exact⟨v,by rw[hw];exact hv,RepA.ext he b v (fun x hx=>hi x (by simp only[Obj.ids];exact List.mem_flatMap.2 ⟨row',List.mem_of_getElem? hrow',idsL_get hb x hx⟩)) hr⟩
 |arr sz ver fz es=>
  obtain⟨h1,h2,h3,h4⟩:=h;refine⟨h1,h2,fun e=>⟨hown (h3 e).1,?_⟩,fun e=>by rw[hF];exact h4 e⟩;rw[hw,hF];exact (h3 e).2
theorem cellA_ren (f:RId→RId) (r:RId) (pv i:Nat) (c:Cell):(cellA r pv i c).ren (liftF f)=cellA (f r) pv i c:=by
 cases c with
 |nil=>rfl
 |d l=>rfl
 |own fr fz sz l=>cases fr<;>rfl
theorem rowsA_ren (f:RId→RId) (r:RId) (pv:Nat):∀(k:Nat) (cells:List Cell),(rowsA r pv k cells).map (AVal.renL (liftF f))=rowsA (f r) pv k cells
 |k,[]=>rfl
 |k,c::cs=>by simp[rowsA,AVal.renL,cellA_ren,rowsA_ren f r pv (k+1) cs]
theorem entsA_ren (f:RId→RId) (r:RId) (pv:Nat):∀(k:Nat) (es:List (Dat×Cell)),(entsA r pv k es).map (fun p=>(p.1,p.2.ren (liftF f)))=entsA (f r) pv k es
 |k,[]=>rfl
 |k,c::cs=>by simp[entsA,cellA_ren,entsA_ren f r pv (k+1) cs]
theorem entsA_ids (r:RId) (pv:Nat):∀(k:Nat) (es:List (Dat×Cell)),∀x∈AVal.idsL ((entsA r pv k es).map (·.2)),x.1=r
 |k,[],x,h=>by simp[entsA,AVal.idsL]at h
 |k,c::cs,x,h=>by
  simp only[entsA,List.map_cons,AVal.idsL,List.mem_append]at h;rcases h with h|h
  ·cases hc:c.2 with
   |nil=>rw[hc]at h;simp[cellA,AVal.ids]at h
   |d l=>rw[hc]at h;simp[cellA,AVal.ids]at h
   |own fr fz sz l=>
    rw[hc]at h;cases fr with
    |true=>simp[cellA,AVal.ids]at h;rw[h]
    |false=>simp[cellA,AVal.ids]at h
  ·exact entsA_ids r pv (k+1) cs x h
theorem kidO_ren (f:Id→Id) (pv:Nat) (c:Option Cell):(kidO pv c).ren f=kidO pv c:=by
 obtain⟨sz,fz,l,q⟩:=zhc7 pv c;rw[q];rfl
theorem flatR_ren (f:RId→RId) (r:RId) (i j:Nat) (o:TObj):flatR (f r) i j (o.tren f)=(flatR r i j o).map (Obj.ren (liftF f)):=by
 cases o with
 |plain o=>simp only[TObj.tren,flatR];split<;>rfl
 |fam ver pv fz cells=>
  simp only[TObj.tren,flatR];split
  ·cases i with
   |zero=>
    simp only[Option.map_some,Option.some.injEq];cases fz with
    |true=>rfl
    |false=>simp[Obj.ren,rowsA_ren]
   |succ i=>simp[kidO_ren]
  ·rfl
 |mapf pv es=>
  simp only[TObj.tren,flatR];split
  ·cases i with
   |zero=>simp[Obj.ren,entsA_ren]
   |succ i=>simp[kidO_ren]
  ·rfl
theorem flatR_ids {r:RId} {i j:Nat} {o:TObj} {ob:Obj} (h:flatR r i j o=some ob):∀x∈ob.ids,x.1∈o.rids∨x.1=r:=by
 intro x hx;cases o with
 |mapf pv es=>
  simp only[flatR]at h;split at h
  ·cases i with
   |zero=>
    simp only[Option.some.injEq]at h;subst h;exact .inr (entsA_ids r pv 0 es x hx)
   |succ i=>
    simp only[Option.some.injEq]at h;subst h;obtain⟨sz,fz,l,q⟩:=zhc7 pv (es[i]?.map (·.2));rw[q]at hx;simp[Obj.ids]at hx
  ·cases h
 |plain o=>
  simp only[flatR]at h;split at h
  ·simp only[Option.some.injEq]at h;subst h;exact .inl (List.mem_map.2 ⟨x,hx,rfl⟩)
  ·cases h
 |fam ver pv fz cells=>
  simp only[flatR]at h;split at h
  ·cases i with
   |zero=>
    simp only[Option.some.injEq]at h;subst h;cases fz with
    |true=>simp[Obj.ids]at hx
    |false=>
     simp only[Bool.false_eq_true,if_false,Obj.ids]at hx;obtain⟨row,hr,hx⟩:=List.mem_flatMap.1 hx;obtain⟨k,hk⟩:=List.getElem?_of_mem hr;rw[zjb7]at hk;obtain⟨c,_,rfl⟩:=zda7 hk;right;cases c with
     |nil=>simp[cellA,AVal.idsL,AVal.ids]at hx
     |d l=>simp[cellA,AVal.idsL,AVal.ids]at hx
     |own fr fz' sz l=>
      cases fr with
      |false=>simp[cellA,AVal.idsL,AVal.ids]at hx
      |true=>simp[cellA,AVal.idsL,AVal.ids]at hx;rw[hx]
   |succ i=>
    simp only[Option.some.injEq]at h;subst h;obtain⟨sz,fz',l,q⟩:=zhc7 pv cells[i]?;rw[q]at hx;simp[Obj.ids]at hx
  ·cases h
section
variable {P:Program} {o:Oper} {a:Act} {B:Base} {C:Ctx} {g:Nat→AVal} {T:TLook}
def zoa7 (C1:Ctx) (order:List RId) (os:List TObj):Ctx:=
 { w:=C1.w,F:=C1.F,μ:=fun id=>C1.μ (order[id.1.2]?.getD (0,0),id.2),ρ:=flat (zpa7 os) }
theorem callee_inv {C1:Ctx} (hI:Inv B C1) (hT:C1.ρ=flat T) {order:List RId} {os:List TObj} (hn:order.Nodup) (hcl:∀i∈order,∃o,T i=some o∧∀j∈o.rids,j∈order)
  (hos:os.length=order.length) (hget:∀(j:Nat) (i:RId),order[j]?=some i→os[j]?=T i):
  Ext (liftF (toPos order)) (fun i=>i.1∈order) C1 (zoa7 C1 order (os.map (TObj.tren (toPos order))))∧
  Inv (baseOf (zoa7 C1 order (os.map (TObj.tren (toPos order))))) (zoa7 C1 order (os.map (TObj.tren (toPos order)))):=by
 have look:∀i:Id,i.1∈order→(zoa7 C1 order (os.map (TObj.tren (toPos order)))).ρ (liftF (toPos order) i)=(C1.ρ i).map (Obj.ren (liftF (toPos order))):=by
  intro i hi;have h1:=hget _ _ (zkc7 hi);obtain⟨o,h2,_⟩:=hcl _ hi;rw[h2]at h1;rw[hT];simp only[zoa7,flat,liftF,h2];have:zpa7 (os.map (TObj.tren (toPos order))) (toPos order i.1)=some (o.tren (toPos order)):=by simp[zpa7,toPos,h1]
  rw[this];exact flatR_ren _ _ _ _ _
 have locOf:∀i:Id,i.1∈order→(zoa7 C1 order (os.map (TObj.tren (toPos order)))).μ (liftF (toPos order) i)=C1.μ i:=by
  intro i hi;simp[zoa7,toPos,liftF,zkc7 hi]
 have back:∀id o,(zoa7 C1 order (os.map (TObj.tren (toPos order)))).ρ id=some o→∃(i:Id) (o1:Obj),i.1∈order∧id=liftF (toPos order) i∧C1.ρ i=some o1∧o=o1.ren (liftF (toPos order)):=by
  intro id o ho;have ho':=ho;simp only[zoa7,flat,zpa7]at ho;split at ho
  ·rename_i o' he;split at he
   ·rename_i h0;rw[List.getElem?_map]at he;obtain⟨o1,h1,h2⟩:=zda7 he;have hlt:=(List.getElem?_eq_some_iff.1 h1).1;have hi:order[id.1.2]?=some order[id.1.2]:=List.getElem?_eq_getElem (by omega)
    have hid:id=liftF (toPos order) (order[id.1.2],id.2):=by
     rw[liftF,toPos,zee7 hn hi,←h0]
    have hmem:order[id.1.2]∈order:=List.getElem_mem _;have:=look (order[id.1.2],id.2) hmem;rw[←hid,ho']at this;obtain⟨ob,h3,h4⟩:=zda7 this.symm;exact⟨_,ob,hmem,hid,h3,h4.symm⟩
   ·cases he
  ·cases ho
 have hext:Ext (liftF (toPos order)) (fun i=>i.1∈order) C1 (zoa7 C1 order (os.map (TObj.tren (toPos order)))):=by
  refine⟨fun _ _ _ h=>h,fun i L hi hb=>?_,fun i A hi ha=>⟨A,?_,Nat.le_refl _,fun _=>⟨rfl,rfl,Nat.le_refl _⟩⟩,fun i b hi hb=>?_⟩
  ·rw[(zoe7 (look i hi) (locOf i hi)).1];exact hb
  ·rw[(zoe7 (look i hi) (locOf i hi)).2.1];exact ha
  ·rw[(zoe7 (look i hi) (locOf i hi)).2.2];exact hb
 have hids:∀i:Id,i.1∈order→∀o1,C1.ρ i=some o1→∀x∈o1.ids,x.1∈order:=by
  intro i hi o1 ho1 x hx;obtain⟨o,h2,h3⟩:=hcl _ hi;rw[hT]at ho1;simp only[flat,h2]at ho1;rcases flatR_ids ho1 x hx with h|h
  ·exact h3 _ h
  ·rw[h];exact hi
 refine⟨hext,?_⟩;refine⟨fun id o ho=>?_,fun i1 i2 o1 o2 ho1 ho2 hw1 hw2 hne j1 j2 hj1 hj2=>?_,fun id o ho hw j hj=>.inl ⟨id,o,ho,hw,j,hj,rfl,rfl⟩,fun i1 i2 x1 x2 hx1 hx2 hne=>?_,fun i x hx=>.inl ⟨i,x,hx,rfl⟩,KeptB.reflM ?_,fun b o v hv=>hI.Fw b o v hv,fun _ _ _ h=>h,fun _ _ _ h=>.inl h⟩
 ·obtain⟨i,o1,hi,rfl,h1,rfl⟩:=back id o ho;rw[locOf i hi];exact (hI.objs i o1 h1).ren hext rfl rfl (hids i hi o1 h1)
 ·obtain⟨a1,b1,c1,rfl,d1,rfl⟩:=back i1 o1 ho1;obtain⟨a2,b2,c2,rfl,d2,rfl⟩:=back i2 o2 ho2;rw[locOf a1 c1]at hj1 ⊢;rw[locOf a2 c2]at hj2 ⊢;rw[own_ren]at hw1 hw2;exact hI.disj a1 a2 b1 b2 d1 d2 hw1 hw2 (fun e=>hne (by rw[e])) j1 j2 hj1 hj2
 ·obtain⟨a1,b1,c1,rfl,d1,e1⟩:=back i1 _ hx1;obtain⟨a2,b2,c2,rfl,d2,e2⟩:=back i2 _ hx2;rw[locOf a1 c1,locOf a2 c2];obtain⟨y1,rfl⟩:=zse7 e1.symm;obtain⟨y2,rfl⟩:=zse7 e2.symm;exact hI.bdisj a1 a2 y1 y2 d1 d2 (fun e=>hne (by rw[e]))
 ·rintro b ⟨i,x,hx,rfl⟩;obtain⟨a1,b1,c1,rfl,d1,e1⟩:=back i _ hx;rw[locOf a1 c1];obtain⟨y1,rfl⟩:=zse7 e1.symm;exact (hI.objs a1 _ d1).2.nc.2
theorem scal_rep {C C':Ctx} {v:AVal} {val:Value} (h:scalV v=true) (hr:RepA C v val):RepA C' v val:=by
 have one:∀d v,scalD d=true→RepV C.F d v→RepV C'.F d v:=by
  intro d v hd hv;refine⟨?_,hv.2⟩;have:=hv.1;cases d<;>simp[scalD]at hd<;>simpa only[RepD]using this
 cases v with
 |dat d=>simp only[RepA]at hr ⊢;exact one d val h hr
 |tup l=>
  simp only[RepA]at hr ⊢;obtain⟨cs,h1,h2⟩:=hr;refine⟨cs,h1,?_⟩;simp only[scalV]at h;generalize cs.toList=us at h2;clear h1
  induction l generalizing us with
  |nil=>simpa only[RepL]using h2
  |cons x r ih=>
   simp only[RepL]at h2 ⊢;obtain⟨c,cs',e1,e2,e3⟩:=h2;simp only[List.all_cons,Bool.and_eq_true]at h;refine⟨c,cs',e1,?_,ih h.2 cs' e3⟩;cases x with
   |dat d=>simp only[RepA]at e2 ⊢;exact one d c h.1 e2
   |_=>simp at h
 |_=>simp[scalV]at h
end
mutual
theorem RepA.live {C:Ctx}:∀(a:AVal) (v:Value),RepA C a v→∀i∈a.ids,∃ob,C.ρ i=some ob
 |.dat d,v,h,i,hi=>by simp[AVal.ids]at hi
 |.nils,v,h,i,hi=>by simp[AVal.ids]at hi
 |.emp t,v,h,i,hi=>by simp[AVal.ids]at hi
 |.cap0,v,h,i,hi=>by simp[AVal.ids]at hi
 |.junk,v,h,i,hi=>by simp[AVal.ids]at hi
 |.nilp,v,h,i,hi=>by simp[AVal.ids]at hi
 |.undef,v,h,i,hi=>by simp[AVal.ids]at hi
 |.fp l,v,h,i,hi=>by simp[AVal.ids]at hi
 |.ref id off,v,h,i,hi=>by
  simp only[AVal.ids,List.mem_singleton]at hi;subst hi;simp only[RepA]at h;obtain⟨L,h1,_⟩:=h;unfold boxAt at h1;split at h1
  ·rename_i e;exact⟨_,e⟩
  ·cases h1
 |.eref id ver j off,v,h,i,hi=>by
  simp only[AVal.ids,List.mem_singleton]at hi;subst hi;simp only[RepA]at h;obtain⟨A,p,h1,_⟩:=h;unfold arrAt at h1;split at h1
  ·rename_i e;exact⟨_,e⟩
  ·rename_i e;exact⟨_,e⟩
  ·cases h1
 |.rsl id ver sz off len,v,h,i,hi=>by
  simp only[AVal.ids,List.mem_singleton]at hi;subst hi;simp only[RepA]at h;obtain⟨A,p,cap,h1,_⟩:=h;unfold arrAt at h1;split at h1
  ·rename_i e;exact⟨_,e⟩
  ·rename_i e;exact⟨_,e⟩
  ·cases h1
 |.lits sz n l,v,h,i,hi=>by
  simp only[RepA]at h;obtain⟨b,o,cap,cs,_,_,_,h3,_⟩:=h;exact RepL.live l cs h3 i (by simpa[AVal.ids]using hi)
 |.agg l,v,h,i,hi=>by
  simp only[RepA]at h;obtain⟨cs,_,h3,_⟩:=h;exact RepL.live l _ h3 i (by simpa[AVal.ids]using hi)
 |.tup l,v,h,i,hi=>by
  simp only[RepA]at h;obtain⟨cs,_,h3⟩:=h;exact RepL.live l _ h3 i (by simpa[AVal.ids]using hi)
 |.fn f l,v,h,i,hi=>by
  simp only[RepA]at h;obtain⟨cs,_,h3⟩:=h;exact RepL.live l _ h3 i (by simpa[AVal.ids]using hi)
 |.bref y id,v,h,i,hi=>by
  simp only[AVal.ids,List.mem_singleton]at hi;subst hi;simp only[RepA]at h;obtain⟨b,h1,_⟩:=h;unfold blkAt at h1;split at h1
  ·rename_i e;exact⟨_,e⟩
  ·cases h1
theorem RepL.live {C:Ctx}:∀(l:List AVal) (cs:List Value),RepL C l cs→∀i∈AVal.idsL l,∃ob,C.ρ i=some ob
 |[],cs,h,i,hi=>by simp[AVal.idsL]at hi
 |a::r,cs,h,i,hi=>by
  simp only[RepL]at h;obtain⟨c,cs',_,h2,h3⟩:=h;simp only[AVal.idsL,List.mem_append]at hi;rcases hi with hi|hi
  ·exact RepA.live a c h2 i hi
  ·exact RepL.live r cs' h3 i hi
end
theorem cells_live {C:Ctx} {L:Loc}:∀(l:List AVal) (k:Nat),(∀(j:Nat) (a:AVal),l[j]?=some a→∃v,C.w.cell? ⟨L.b,L.o+(k+j),none⟩=some v∧RepA C a v)→∀i∈AVal.idsL l,∃ob,C.ρ i=some ob
 |[],k,h,i,hi=>by simp[AVal.idsL]at hi
 |a::r,k,h,i,hi=>by
  simp only[AVal.idsL,List.mem_append]at hi;rcases hi with hi|hi
  ·obtain⟨v,_,hr⟩:=h 0 a rfl;exact RepA.live a v hr i hi
  ·exact cells_live r (k+1) (fun j b hb=>by
    obtain⟨v,h1,h2⟩:=h (j+1) b (by simpa using hb);exact⟨v,by rwa [show k+1+j=k+(j+1) by omega],h2⟩) i hi
theorem ObjOK.live {C:Ctx} {L:Loc} {ob:Obj} (h:ObjOK C L ob):∀i∈ob.ids,∃o',C.ρ i=some o':=by
 cases ob with
 |blk x=>
  cases x with
  |map es=>
   obtain⟨_,ens,clock,_,_,h4⟩:=h;intro i hi;simp only[Obj.ids]at hi
   have:∀(es:List (Dat×AVal)) (ens:List MapEntry),EntsOK C es ens→i∈AVal.idsL (es.map (·.2))→∃o',C.ρ i=some o':=by
    intro es
    induction es with
    |nil=>intro ens _ h;simp[AVal.idsL]at h
    |cons e r ih=>
     intro ens hE h;simp only[EntsOK]at hE;obtain⟨en,ens',_,_,e3,e4⟩:=hE;simp only[List.map_cons,AVal.idsL,List.mem_append]at h;rcases h with h|h
     ·exact RepA.live _ _ e3 i h
     ·exact ih _ e4 h
   exact this es _ h4 hi
  |dead=>intro i hi;simp[Obj.ids]at hi
  |loop k st env=>
   obtain⟨_,r,_,_,_,h4⟩:=h;intro i hi;simp only[Obj.ids]at hi
   have:∀(l:List AVal),i∈AVal.idsL l→∃x∈l,i∈x.ids:=by
    intro l
    induction l with
    |nil=>intro h;simp[AVal.idsL]at h
    |cons x r ih=>
     intro h;simp only[AVal.idsL,List.mem_append]at h;rcases h with h|h
     ·exact⟨x,by simp,h⟩
     ·obtain⟨y,h1,h2⟩:=ih h;exact⟨y,by simp[h1],h2⟩
   obtain⟨x,hx,hix⟩:=this _ hi;obtain⟨p,hp,rfl⟩:=List.mem_map.1 hx;exact RepA.live _ _ (h4 p hp) i hix
 |box cs=>exact cells_live cs 0 (fun j a ha=>by have:=h.2.2.2 j a ha;simpa using this)
 |rarr sz ver es=>
  intro i hi;simp only[Obj.ids]at hi;obtain⟨row,hr,hi⟩:=List.mem_flatMap.1 hi;obtain⟨k,hk⟩:=List.getElem?_of_mem hr;obtain⟨h1,h2,h3,h4,h5⟩:=h;exact cells_live (L:=⟨L.b,L.o+k*sz,0⟩) row 0 (fun j a ha=>by simpa using h5 k row hk j a ha) i hi
 |arr sz ver fz es=>intro i hi;simp[Obj.ids]at hi
theorem updT_zip:∀{ids:List RId} {os:List TObj},ids.Nodup→ids.length=os.length→∀(ρ:TLook) (i:RId),updT ρ (ids.zip os) i=if i∈ids then os[zyb7 ids i]? else ρ i
 |[],os,_,_,ρ,i=>by simp[updT]
 |id::r,[],_,hl,ρ,i=>by simp at hl
 |id::r,o::os,hn,hl,ρ,i=>by
  simp only[List.zip_cons_cons,updT];rw[List.nodup_cons]at hn;rw[updT_zip hn.2 (by simpa using hl)];by_cases e:id=i
  ·subst e;simp[hn.1,zyb7]
  ·simp only[List.mem_cons,zyb7,e,if_false];by_cases hi:i∈r
   ·simp[hi]
   ·have e':¬i=id:=fun x=>e x.symm
    simp[hi,e']
section
variable {P:Program} {o:Oper} {a:Act} {B:Base} {C:Ctx} {g:Nat→AVal} {T:TLook}
theorem ids_spec {order:List RId} {site n:Nat} (hn:order.Nodup) (hm:order.length≤n) (hfresh:∀j,j<n-order.length→(site+1,j)∉order):
  ((List.range n).map fun j=>zdb7 order site (0,j)).Nodup∧(∀j,j<n→((List.range n).map fun j=>zdb7 order site (0,j))[j]?=some (zdb7 order site (0,j)))∧
  (∀i∈order,i∈((List.range n).map fun j=>zdb7 order site (0,j)))∧
  (∀i∈((List.range n).map fun j=>zdb7 order site (0,j)),i∈order∨∃j,j<n-order.length∧i=(site+1,j)):=by
 have val:∀j,zdb7 order site (0,j)=if h:j<order.length then order[j] else (site+1,j-order.length):=by
  intro j;unfold zdb7;by_cases h:j<order.length
  ·simp[h]
  ·simp[h,List.getElem?_eq_none (Nat.le_of_not_lt h)]
 refine⟨?_,fun j hj=>by simp[hj],fun i hi=>?_,fun i hi=>?_⟩
 ·rw[List.Nodup,List.pairwise_map];refine List.Pairwise.imp_of_mem ?_ (List.pairwise_lt_range (n:=n));intro x y hx hy hlt;rw[val,val];have hy':y<n:=by simpa using hy
  by_cases h1:x<order.length
  ·by_cases h2:y<order.length
   ·rw[dif_pos h1,dif_pos h2];intro e;have:=(List.getElem_inj hn).1 e;omega
   ·rw[dif_pos h1,dif_neg h2];intro e;exact hfresh (y-order.length) (by omega) (e▸List.getElem_mem h1)
  ·have h2:¬y<order.length:=by omega
   rw[dif_neg h1,dif_neg h2];intro e;simp only[Prod.mk.injEq]at e;omega
 ·rw[List.mem_map];refine⟨zyb7 order i,by have:=indexIn_lt hi;simp;omega,?_⟩;have:=zkc7 hi;simp[zdb7,this]
 ·rw[List.mem_map]at hi;obtain⟨j,hj,rfl⟩:=hi;rw[val];simp at hj;split
  ·exact .inl (List.getElem_mem _)
  ·exact .inr ⟨j-order.length,by omega,rfl⟩
def afterCtx (C1 C':Ctx) (T:TLook) (ids:List RId) (os:List TObj):Ctx:=
 { w:=C'.w,F:=C'.F,μ:=fun id=>if id.1∈ids then C'.μ ((0,zyb7 ids id.1),id.2) else C1.μ id,ρ:=flat fun r=>if r∈ids then os[zyb7 ids r]? else T r }
theorem after_inv {C1 Ce C':Ctx} (hI:Inv B C1) (hT:C1.ρ=flat T) {order:List RId} {os os':List TObj} {site:Nat} (hn:order.Nodup) (hcl:∀i∈order,∃o,T i=some o∧∀j∈o.rids,j∈order)
  (hlen:os.length=order.length) (hCe:Ce=zoa7 C1 order (os.map (TObj.tren (toPos order)))) (hext:Ext (liftF (toPos order)) (fun i=>i.1∈order) C1 Ce)
  (hget:∀(j:Nat) (i:RId),order[j]?=some i→os[j]?=T i)
  (hm:order.length≤os'.length) (hfresh:∀j,j<os'.length-order.length→T (site+1,j)=none)
  (hρ':C'.ρ=flat (zpa7 os')) (hI':Inv (baseOf Ce) C') (hx:Ext (fun i=>i) (fun id=>id.1.1=0∧id.1.2<os.length) Ce C'):
  let ids:=(List.range os'.length).map fun j=>zdb7 order site (0,j)
  let C2:=afterCtx C1 C' T ids (os'.map (TObj.tren (zdb7 order site)))
  Inv B C2∧Grow C1 C2∧Ext (liftF (zdb7 order site)) (fun id=>id.1.1=0∧id.1.2<os'.length) C' C2:=by
 intro ids C2
 have hfo:∀j,j<os'.length-order.length→(site+1,j)∉order:=by
  intro j hj hmem;obtain⟨o,h1,_⟩:=hcl _ hmem;rw[hfresh j hj]at h1;cases h1
 obtain⟨n1,n2,n3,n4⟩:=ids_spec (site:=site) (n:=os'.length) hn hm hfo;have hidx:∀j,j<os'.length→zyb7 ids (zdb7 order site (0,j))=j:=fun j hj=>zee7 n1 (n2 j hj)
 have hmem:∀j,j<os'.length→zdb7 order site (0,j)∈ids:=fun j hj=>List.mem_of_getElem? (n2 j hj)
 have hilt:∀i,i∈ids→zyb7 ids i<os'.length:=fun i hi=>by have:=indexIn_lt hi;simpa[ids]using this
 have hfrom:∀i,i∈ids→zdb7 order site (0,zyb7 ids i)=i:=by
  intro i hi;have h1:=zkc7 hi;have h2:=n2 _ (hilt i hi);rw[h1]at h2;exact (Option.some.inj h2).symm
 have look2:∀j p,j<os'.length→C2.ρ (zdb7 order site (0,j),p)=(C'.ρ ((0,j),p)).map (Obj.ren (liftF (zdb7 order site))):=by
  intro j p hj;rw[hρ'];simp only[C2,afterCtx,flat,zpa7,hmem j hj,if_true,hidx j hj,List.getElem?_map];cases e:os'[j]? with
  |none=>rfl
  |some o=>exact flatR_ren _ _ _ _ _
 have loc2:∀j p,j<os'.length→C2.μ (zdb7 order site (0,j),p)=C'.μ ((0,j),p):=by
  intro j p hj;simp only[C2,afterCtx,hmem j hj,if_true,hidx j hj]
 have look':∀id ob,C'.ρ id=some ob→id=((0,id.1.2),id.2)∧id.1.2<os'.length:=by
  intro id ob hob;rw[hρ']at hob;simp only[flat,zpa7]at hob;split at hob
  ·rename_i o' he;split at he
   ·rename_i h0;exact⟨by rw[←h0],(List.getElem?_eq_some_iff.1 he).1⟩
   ·cases he
  ·cases hob
 have hextB:Ext (liftF (zdb7 order site)) (fun id=>id.1.1=0∧id.1.2<os'.length) C' C2:=by
  have at2:∀i:Id,i.1.1=0∧i.1.2<os'.length→boxAt C2 (liftF (zdb7 order site) i)=boxAt C' i∧arrAt C2 (liftF (zdb7 order site) i)=arrAt C' i∧blkAt C2 (liftF (zdb7 order site) i)=blkAt C' i:=by
   intro i hi;have ei:i=((0,i.1.2),i.2):=by rw[←hi.1]
   rw[ei];exact zoe7 (look2 _ _ hi.2) (loc2 _ _ hi.2)
  refine⟨fun _ _ _ h=>h,fun i L hi hb=>?_,fun i A hi ha=>⟨A,?_,Nat.le_refl _,fun _=>⟨rfl,rfl,Nat.le_refl _⟩⟩,fun i b hi hb=>?_⟩
  ·rw[(at2 i hi).1];exact hb
  ·rw[(at2 i hi).2.1];exact ha
  ·rw[(at2 i hi).2.2];exact hb
 have other:∀i:Id,i.1∉ids→C2.ρ i=C1.ρ i∧C2.μ i=C1.μ i:=by
  intro i hi;refine⟨?_,by simp only[C2,afterCtx,hi,if_false]⟩;rw[hT];simp only[C2,afterCtx];exact zka7 (by simp only[hi,if_false])
 have hback:∀i:Id,i.1∈order→(toPos order i.1).1=0∧(toPos order i.1).2<os'.length∧(toPos order i.1).2<os.length∧liftF (zdb7 order site) (liftF (toPos order) i)=i:=by
  intro i hi;have:=indexIn_lt hi;refine⟨rfl,by simp only[toPos];omega,by simp only[toPos];omega,?_⟩;simp[zdb7,toPos,liftF,zkc7 hi]
 have notOrder:∀i:Id,i.1∈ids→i.1∉order→C1.ρ i=none:=by
  intro i hi ho;rcases n4 i.1 hi with h|⟨j,hj,e⟩
  ·exact absurd h ho
  ·rw[hT];have:T i.1=none:=by rw[e];exact hfresh j hj
   simp[flat,this]
 have hgrow:Grow C1 C2:=by
  refine⟨fun b x v hv=>?_,fun i L _ hb=>?_,fun i A _ ha=>?_,fun i c _ hb=>?_⟩;rotate_left 3
  ·by_cases hi:i.1∈ids
   ·by_cases ho:i.1∈order
    ·obtain⟨b1,b2,b3,b4⟩:=hback i ho;have h1:=hext.blk i c ho hb;have h2:=hx.blk _ c ⟨b1,b3⟩ h1;have h3:=hextB.blk _ c ⟨b1,b2⟩ h2;simpa[b4]using h3
    ·simp[blkAt,notOrder i hi ho]at hb
   ·obtain⟨q1,q2⟩:=other i hi;simpa[blkAt,q1,q2]using hb
  ·have h1:Ce.F b x=some v:=by subst hCe;exact hv
   exact hI'.Fsub _ _ _ h1
  ·by_cases hi:i.1∈ids
   ·by_cases ho:i.1∈order
    ·obtain⟨b1,b2,b3,b4⟩:=hback i ho;have h1:=hext.box i L ho hb;have h2:=hx.box _ L ⟨b1,b3⟩ h1;have h3:=hextB.box _ L ⟨b1,b2⟩ h2;simpa[b4]using h3
    ·simp[boxAt,notOrder i hi ho]at hb
   ·obtain⟨q1,q2⟩:=other i hi;simpa[boxAt,q1,q2]using hb
  ·by_cases hi:i.1∈ids
   ·by_cases ho:i.1∈order
    ·obtain⟨b1,b2,b3,b4⟩:=hback i ho;obtain⟨A1,h1,v1,e1⟩:=hext.arr i A ho ha;obtain⟨A2,h2,v2,e2⟩:=hx.arr _ A1 ⟨b1,b3⟩ h1;obtain⟨A3,h3,v3,e3⟩:=hextB.arr _ A2 ⟨b1,b2⟩ h2;refine⟨A3,by simpa[b4]using h3,by omega,fun e=>?_⟩;obtain⟨x1,x2,x3⟩:=e1 (by omega);obtain⟨y1,y2,y3⟩:=e2 (by omega);obtain⟨z1,z2,z3⟩:=e3 (by omega);exact⟨by rw[z1,y1,x1],by rw[z2,y2,x2],by omega⟩
    ·simp[arrAt,notOrder i hi ho]at ha
   ·obtain⟨q1,q2⟩:=other i hi;exact⟨A,by simpa[arrAt,q1,q2]using ha,Nat.le_refl _,fun _=>⟨rfl,rfl,Nat.le_refl _⟩⟩
 have hCew:Ce.w=C1.w:=by subst hCe;rfl
 have hCeF:Ce.F=C1.F:=by subst hCe;rfl
 have hkept:KeptB C1.w C2.w (OwnSet Ce) (OwnBlk Ce):=by have:=hI'.kept;simp only at this;rw[hCew]at this;exact this
 have back0:∀id ob,Ce.ρ id=some ob→∃(i:Id) (ob1:Obj),i.1∈order∧C1.ρ i=some ob1∧ob=ob1.ren (liftF (toPos order))∧Ce.μ id=C1.μ i:=by
  intro id ob h1;subst hCe;simp only[zoa7,flat,zpa7]at h1;split at h1
  ·rename_i o' he;split at he
   ·rename_i h0;rw[List.getElem?_map]at he;obtain⟨o1,g1,g2⟩:=zda7 he;have hlt:=(List.getElem?_eq_some_iff.1 g1).1;have hi:order[id.1.2]?=some order[id.1.2]:=List.getElem?_eq_getElem (by omega);have hμ:(zoa7 C1 order (os.map (TObj.tren (toPos order)))).μ id=C1.μ (order[id.1.2],id.2):=by simp[zoa7,hi]
    have hTi:T order[id.1.2]=some o1:=by rw[←hget _ _ hi,g1]
    have hid1:id.1=toPos order order[id.1.2]:=by rw[toPos,zee7 hn hi,←h0]
    rw[←g2,hid1,flatR_ren]at h1;obtain⟨ob1,q1,q2⟩:=zda7 h1;exact⟨(order[id.1.2],id.2),ob1,List.getElem_mem _,by rw[hT];simp only[flat,hTi];exact q1,q2.symm,hμ⟩
   ·cases he
  ·cases h1
 have hown0:∀b x,OwnSet Ce b x→∃(i:Id) (ob:Obj),i.1∈order∧C1.ρ i=some ob∧ob.own=true∧∃j,j<(C1.μ i).n∧b=(C1.μ i).b∧x=(C1.μ i).o+j:=by
  rintro b x ⟨id,ob,h1,h2,j,hj,rfl,rfl⟩;obtain⟨i,ob1,q1,q2,rfl,q3⟩:=back0 id ob h1;rw[q3]at hj ⊢;rw[own_ren]at h2;exact⟨i,ob1,q1,q2,h2,j,hj,rfl,rfl⟩
 have hown0B:∀b,OwnBlk Ce b→∃(i:Id) (x:Blk),i.1∈order∧C1.ρ i=some (.blk x)∧b=(C1.μ i).b:=by
  rintro b ⟨id,x,h1,rfl⟩;obtain⟨i,ob1,q1,q2,q4,q3⟩:=back0 id _ h1;obtain⟨x',rfl⟩:=zse7 q4.symm;exact⟨i,x',q1,q2,by rw[q3]⟩
 have ownB:∀b x,OwnSet Ce b x→B.O b x∨B.w.heap.size≤b:=by
  intro b x h;obtain⟨i,ob,_,h2,h3,j,hj,rfl,rfl⟩:=hown0 b x h;exact hI.own i ob h2 h3 j hj
 have hFnew:∀b x v,C2.F b x=some v→C1.F b x=some v∨C1.w.heap.size≤b∨OwnSet Ce b x:=by
  intro b x v hv;rcases hI'.Fnew b x v hv with h|h|h
  ·change Ce.F b x=some v at h;rw[hCeF]at h;exact .inl h
  ·exact .inr (.inr h)
  ·change Ce.w.heap.size≤b at h;rw[hCew]at h;exact .inr (.inl h)
 have notOwn:∀(i:Id) ob,i.1∉ids→C1.ρ i=some ob→ob.own=true→∀j,j<(C1.μ i).n→¬OwnSet Ce (C1.μ i).b ((C1.μ i).o+j):=by
  intro i ob hi h1 h2 j hj hcon;obtain⟨i',ob',h3,h4,h5,j',hj',e1,e2⟩:=hown0 _ _ hcon;exact hI.disj i i' ob ob' h1 h4 h2 h5 (fun e=>hi (by rw[e];exact n3 _ h3)) j j' hj hj' ⟨e1,e2⟩
 have notOwnB:∀(i:Id) x,i.1∉ids→C1.ρ i=some (.blk x)→¬OwnBlk Ce (C1.μ i).b:=by
  intro i x hi h1 hcon;obtain⟨i',x',h3,h4,h5⟩:=hown0B _ hcon;exact hI.bdisj i i' x x' h1 h4 (fun e=>hi (by rw[e];exact n3 _ h3)) h5
 have blkLt:∀(i:Id) x,C1.ρ i=some (.blk x)→(C1.μ i).b<C1.w.heap.size:=fun i x h=>(hI.objs i _ h).2.nc.1
 have got:∀(i:Id) ob,i.1∈ids→C2.ρ i=some ob→∃ob',C'.ρ ((0,zyb7 ids i.1),i.2)=some ob'∧ob=ob'.ren (liftF (zdb7 order site))∧C2.μ i=C'.μ ((0,zyb7 ids i.1),i.2):=by
  intro i ob hi hob;have h1:=look2 _ i.2 (hilt i.1 hi);have h2:=loc2 _ i.2 (hilt i.1 hi);rw[hfrom i.1 hi]at h1 h2;rw[show C2.ρ (i.1,i.2)=C2.ρ i from rfl,hob]at h1;obtain⟨ob',h3,h4⟩:=zda7 h1.symm;exact⟨ob',h3,h4.symm,h2⟩
 have ownLoc:∀(i:Id) ob,i.1∈ids→C2.ρ i=some ob→ob.own=true→∀j,j<(C2.μ i).n→OwnSet Ce (C2.μ i).b ((C2.μ i).o+j)∨C1.w.heap.size≤(C2.μ i).b:=by
  intro i ob hi hob hw j hj;obtain⟨ob',h1,h2,h3⟩:=got i ob hi hob;rw[h3]at hj ⊢;rw[h2,own_ren]at hw;have:=hI'.own _ ob' h1 hw j hj;simp only[hCew]at this;exact this
 have ownLocB:∀(i:Id) x,i.1∈ids→C2.ρ i=some (.blk x)→OwnBlk Ce (C2.μ i).b∨C1.w.heap.size≤(C2.μ i).b:=by
  intro i x hi hob;obtain⟨ob',h1,h2,h3⟩:=got i _ hi hob;rw[h3];obtain⟨x',rfl⟩:=zse7 h2.symm;have:=hI'.bown _ x' h1;simp only[hCew]at this;exact this
 refine⟨⟨fun i ob hob=>?_,fun i1 i2 o1 o2 ho1 ho2 hw1 hw2 hne j1 j2 hj1 hj2=>?_,fun i ob hob hw j hj=>?_,fun i1 i2 x1 x2 hx1 hx2 hne=>?_,fun i x hx=>?_,?_,fun b x v hv=>hI'.Fw b x v hv,fun b x v hv=>hgrow.F _ _ _ (hI.Fsub _ _ _ hv),fun b x v hv=>?_⟩,hgrow,hextB⟩
 ·by_cases hi:i.1∈ids
  ·obtain⟨ob',h1,h2,h3⟩:=got i ob hi hob;rw[h2,h3]
   exact (hI'.objs _ ob' h1).ren hextB rfl rfl (fun i' hi'=>by
    obtain⟨o'',h5⟩:=(hI'.objs _ ob' h1).live i' hi';obtain⟨e1,e2⟩:=look' _ _ h5;exact⟨by rw[e1],e2⟩)
  ·obtain⟨q1,q2⟩:=other i hi;rw[q1]at hob;rw[q2];exact (hI.objs i ob hob).keep hgrow hkept hFnew (fun hw=>notOwn i ob hi hob hw) (fun x e=>by subst e;exact notOwnB i x hi hob)
 ·by_cases h1:i1.1∈ids
  ·by_cases h2:i2.1∈ids
   ·obtain⟨a1,b1,c1,d1⟩:=got i1 o1 h1 ho1;obtain⟨a2,b2,c2,d2⟩:=got i2 o2 h2 ho2;rw[d1]at hj1 ⊢;rw[d2]at hj2 ⊢;rw[c1,own_ren]at hw1;rw[c2,own_ren]at hw2;refine hI'.disj _ _ a1 a2 b1 b2 hw1 hw2 (fun e=>hne ?_) j1 j2 hj1 hj2;have q1:=congrArg (fun z:Id=>zdb7 order site z.1) e;have q2:=congrArg (fun z:Id=>z.2) e;simp only at q1 q2;rw[hfrom i1.1 h1,hfrom i2.1 h2]at q1;exact Prod.ext q1 q2
   ·obtain⟨q1,q2⟩:=other i2 h2;rw[q1]at ho2;rw[q2]at hj2 ⊢;intro ⟨e1,e2⟩;rcases ownLoc i1 o1 h1 ho1 hw1 j1 hj1 with h|h
    ·rw[e1,e2]at h;exact notOwn i2 o2 h2 ho2 hw2 j2 hj2 h
    ·obtain⟨⟨v,hv⟩,_⟩:=(hI.objs i2 o2 ho2).ownOK hw2 j2 hj2;have:=World.block_lt_of_cell? _ _ hv;simp only at this;omega
  ·obtain⟨q1,q2⟩:=other i1 h1;rw[q1]at ho1;rw[q2]at hj1 ⊢;by_cases h2:i2.1∈ids
   ·intro ⟨e1,e2⟩;rcases ownLoc i2 o2 h2 ho2 hw2 j2 hj2 with h|h
    ·rw[←e1,←e2]at h;exact notOwn i1 o1 h1 ho1 hw1 j1 hj1 h
    ·obtain⟨⟨v,hv⟩,_⟩:=(hI.objs i1 o1 ho1).ownOK hw1 j1 hj1;have:=World.block_lt_of_cell? _ _ hv;simp only at this;omega
   ·obtain⟨q3,q4⟩:=other i2 h2;rw[q3]at ho2;rw[q4]at hj2 ⊢;exact hI.disj i1 i2 o1 o2 ho1 ho2 hw1 hw2 hne j1 j2 hj1 hj2
 ·by_cases hi:i.1∈ids
  ·rcases ownLoc i ob hi hob hw j hj with h|h
   ·exact ownB _ _ h
   ·exact .inr (Nat.le_trans hI.kept.size h)
  ·obtain⟨q1,q2⟩:=other i hi;rw[q1]at hob;rw[q2]at hj ⊢;exact hI.own i ob hob hw j hj
 ·by_cases h1:i1.1∈ids
  ·by_cases h2:i2.1∈ids
   ·obtain⟨a1,b1,c1,d1⟩:=got i1 _ h1 hx1;obtain⟨a2,b2,c2,d2⟩:=got i2 _ h2 hx2;rw[d1,d2];obtain⟨y1,rfl⟩:=zse7 c1.symm;obtain⟨y2,rfl⟩:=zse7 c2.symm;refine hI'.bdisj _ _ y1 y2 b1 b2 (fun e=>hne ?_);have q1:=congrArg (fun z:Id=>zdb7 order site z.1) e;have q2:=congrArg (fun z:Id=>z.2) e;simp only at q1 q2;rw[hfrom i1.1 h1,hfrom i2.1 h2]at q1;exact Prod.ext q1 q2
   ·obtain⟨q1,q2⟩:=other i2 h2;rw[q1]at hx2;rw[q2];intro e;rcases ownLocB i1 x1 h1 hx1 with h|h
    ·rw[e]at h;exact notOwnB i2 x2 h2 hx2 h
    ·have:=blkLt i2 x2 hx2;omega
  ·obtain⟨q1,q2⟩:=other i1 h1;rw[q1]at hx1;rw[q2];by_cases h2:i2.1∈ids
   ·intro e;rcases ownLocB i2 x2 h2 hx2 with h|h
    ·rw[←e]at h;exact notOwnB i1 x1 h1 hx1 h
    ·have:=blkLt i1 x1 hx1;omega
   ·obtain⟨q3,q4⟩:=other i2 h2;rw[q3]at hx2;rw[q4];exact hI.bdisj i1 i2 x1 x2 hx1 hx2 hne
 ·by_cases hi:i.1∈ids
  ·rcases ownLocB i x hi hx with h|h
   ·obtain⟨i',x',h3,h4,h5⟩:=hown0B _ h;rw[h5];exact hI.bown i' x' h4
   ·exact .inr (Nat.le_trans hI.kept.size h)
  ·obtain⟨q1,q2⟩:=other i hi;rw[q1]at hx;rw[q2];exact hI.bown i x hx
 ·refine hI.kept.trans hkept (fun _ _ _ h=>h) (fun b x hb h=>?_) (fun _ _ h=>h) (fun b hb h=>?_) fun b hb hM=>(hI.kept.blk b hb hM).1
  ·rcases ownB b x h with h|h
   ·exact h
   ·omega
  ·obtain⟨i',x',h3,h4,h5⟩:=hown0B _ h;rcases hI.bown i' x' h4 with h6|h6
   ·rw[h5];exact h6
   ·omega
 ·rcases hFnew b x v hv with h|h|h
  ·exact hI.Fnew _ _ _ h
  ·exact .inr (.inr (Nat.le_trans hI.kept.size h))
  ·exact .inr (ownB _ _ h)
theorem map_fst_zipIdx (axs:List AX) (bs:Nat→Bool):((axs.zipIdx.map fun p=>(p.1,bs p.2)).map fun p=>p.1)=axs:=by
 rw[List.map_map];have:((fun p:AX×Bool=>p.1)∘fun p:AX×Nat=>(p.1,bs p.2))=Prod.fst:=rfl;rw[this,List.zipIdx_map_fst]
theorem callE_core {K:Orc} (hI:Inv B C) (hρ:C.ρ=flat T) (hG:GlobOK C.F) {f:FuncId} {args:List (AVal×Bool)} {vals:List Value} {sc:Bool} {site:Nat} {v:AVal} {us:List (RId×TObj)}
  (hrl:RepL C (args.map (·.1)) vals) (h:callE K site f args sc T=some (v,us)):
  ∃(Cc:Ctx) (vs:List AVal) (os:List TObj) (rv:AVal) (os':List TObj),Cc.w=C.w∧Cc.ρ=flat (zpa7 os)∧GlobOK Cc.F∧Inv (baseOf Cc) Cc∧RepL Cc vs vals∧K f vs os=some (rv,os')∧
   ∀e w',PostOK Cc os rv os' e w'→∃val,e=.returned val∧OwesT B C T v us val w':=by
 unfold callE at h;split at h
 ·cases h
 ·rename_i vs us0 hvs;obtain⟨C1,k1,k3,k4,k5,k6⟩:=argsT_ok hI hρ hvs;have hvr:=k6 _ hrl;split at h
  ·cases h
  ·rename_i order hcol;obtain⟨r1,r2,r3,r4,_⟩:=zvd7 (updT T us0) 64 _ [] order hcol (by simp) (by simp);split at h
   ·cases h
   ·rename_i os hos;obtain⟨g1,g2⟩:=zgf7 hos;obtain⟨hext,hinv⟩:=callee_inv k4 k3 r1 r4 g1 g2
    have hargr:RepL (zoa7 C1 order (os.map (TObj.tren (toPos order)))) (AVal.trenL (toPos order) vs) vals:=
     RepL.ext hext vs _ (fun i hi=>r3 _ (List.mem_map.2 ⟨i,hi,rfl⟩)) hvr
    split at h
    ·cases h
    ·rename_i rv os' hK;have hw1:(zoa7 C1 order (os.map (TObj.tren (toPos order)))).w=C.w:=k1;refine⟨zoa7 C1 order (os.map (TObj.tren (toPos order))),_,_,rv,os',hw1,rfl,hG.mono k5.F,hinv,hargr,hK,fun e w' ⟨val,C',h1,h2,h3,h4,h5,h6⟩=>⟨val,h1,?_⟩⟩;split at h
     ·rename_i hsc;simp only[Bool.and_eq_true,List.isEmpty_iff]at hsc;have hord:=hsc.2;subst hord;split at h
      ·rename_i hh;simp only[Bool.and_eq_true,List.isEmpty_iff]at hh;simp only[Option.some.injEq,Prod.mk.injEq]at h;obtain⟨rfl,rfl⟩:=h;have hk0:=h4.kept;simp only[hw1]at hk0;have hos:os=[]:=List.eq_nil_of_length_eq_zero g1
       have hk:=hk0.kept (fun i _ hM=>by
        obtain⟨id,x,q1,_⟩:=hM;subst hos;simp[zoa7,flat,zpa7]at q1)
       have hempty:∀b x,¬OwnSet (zoa7 C1 [] (os.map (TObj.tren (toPos [])))) b x:=by
        rintro b x ⟨id,ob,q1,_⟩;have:os=[]:=List.eq_nil_of_length_eq_zero g1;subst this;simp[zoa7,flat,zpa7]at q1
       obtain⟨i1,i2⟩:=hI.plain (C':={ C with w:=C'.w }) (hk.mono fun b x _ hx=>hempty b x hx) (fun _ _ _ h=>h) (fun _ _ _ h=>.inl h) (fun b x v hv e=>by simp only at hv;rw[e]at hv;cases hv) rfl rfl;exact⟨{ C with w:=C'.w },h2,hρ,i1,i2,scal_rep hh.2 h5⟩
      ·cases h
     ·split at h
      ·cases h
      ·rename_i hlen;split at h
       ·cases h
       ·rename_i hfr;simp only[Option.some.injEq,Prod.mk.injEq]at h;obtain⟨rfl,rfl⟩:=h
        have hfresh:∀j,j<os'.length-order.length→updT T us0 (site+1,j)=none:=by
         intro j hj;cases e:updT T us0 (site+1,j) with
         |none=>rfl
         |some ob=>
          exfalso;apply hfr;rw[List.any_eq_true];exact⟨j,by simpa using hj,by simp[e]⟩
        obtain⟨a1,a2,a3⟩:=after_inv (site:=site) k4 k3 r1 r4 g1 rfl hext g2 (by omega) hfresh h3 h4 (by simpa using h6)
        obtain⟨n1,n2,n3,n4⟩:=ids_spec (site:=site) (n:=os'.length) r1 (by omega) (fun j hj hm=>by
         obtain⟨o',q,_⟩:=r4 _ hm;rw[hfresh j hj]at q;cases q)
        refine⟨_,?_,?_,a1,k5.trans a2,?_⟩
        ·exact h2
        ·rw[zob7];simp only[afterCtx]
         congr 1
         funext i;rw[updT_zip n1 (by simp)]
        ·refine RepA.ext a3 rv val (fun i hi=>?_) h5;obtain⟨ob,hob⟩:=RepA.live rv val h5 i hi;rw[h3]at hob;simp only[flat,zpa7]at hob;split at hob
         ·rename_i o' he;split at he
          ·rename_i h0;exact⟨h0,(List.getElem?_eq_some_iff.1 he).1⟩
          ·cases he
         ·cases hob
theorem callE_ok {K:Orc} (hS:zae7 P K) (hI:Inv B C) (hρ:C.ρ=flat T) (hG:GlobOK C.F) {f:FuncId} {args:List (AVal×Bool)} {vals:Array Value} {sc:Bool} {site:Nat} {v:AVal} {us:List (RId×TObj)}
  (hen:f=YID→zkb7 P f=true) (hrun:zkb7 P f=true→(execOp a.eval o).run P C.w=.ok (.enter f vals) C.w) (hrl:RepL C (args.map (·.1)) vals.toList) (h:callE K site f args sc T=some (v,us)):Does P o a C.w (OwesT B C T v us):=by
 obtain⟨Cc,vs,os,rv,os',c1,c2,c3,c4,c5,c6,c7⟩:=callE_core hI hρ hG hrl h;rcases hS _ _ _ _ _ c6 with⟨_,he,hc⟩|⟨he,he',_⟩
 ·refine .inr (.inr (.inl ⟨f,_,hrun he,?_⟩));have:=hc Cc vals c2 c3 c4 c5;rw[c1]at this;exact this.mono c7
 ·rw[hen he]at he';cases he'
theorem yieldE_ok {K:Orc} (hS:zae7 P K) (hI:Inv B C) (hρ:C.ρ=flat T) (hG:GlobOK C.F) {args:List (AVal×Bool)} {vals:Array Value} {l:Nat} {sc:Bool} {site:Nat} {v:AVal} {us:List (RId×TObj)}
  (hrun:(execOp a.eval o).run P C.w=(Instr.yield l vals).run P C.w) (hrl:RepL C (args.map (·.1)) (vals.push (.func (.yield l) #[] #[])).toList) (h:callE K site YID args sc T=some (v,us)):Does P o a C.w (OwesT B C T v us):=by
 obtain⟨Cc,vs,os,rv,os',c1,c2,c3,c4,c5,c6,c7⟩:=callE_core hI hρ hG hrl h;rcases hS _ _ _ _ _ c6 with⟨he,_⟩|⟨_,_,hy⟩
 ·exact absurd rfl he
 ·obtain⟨f,tmps,asg,bd,q1,q2⟩:=hy Cc vals l c2 c3 c4 c5;rw[c1]at q1 q2;exact .inr (.inr (.inr ⟨l,f,tmps,asg,bd,by rw[hrun,q1],q2.mono c7⟩))
theorem run_enter {f:FuncId} {args:Array Value} (hen:zkb7 P f=true) (w:World):(callFunc f args).run P w=.ok (.enter f args) w:=by
 unfold zkb7 at hen;cases hfn:P.funcs[f]? with
 |none=>simp[hfn]at hen
 |some fn=>
  rw[hfn]at hen;simp only[bne_iff_ne,Bool.and_eq_true,ne_eq]at hen;have hb:fn.body.isNone=false:=by cases hb:fn.body<;>simp_all
  have hname:(fn.name == "runtime.NumGoroutine")=false:=by simpa using hen.1
  simp only[callFunc,Sem.run_bind,run_program,hfn,hname,hb,Bool.false_eq_true,if_false,Sem.run_pure,Result.andThen_ok]
theorem cOp_call {m:Mk} {f:FuncId} {args:List (AX×Bool)} {sc:Bool} (hc:cOp P m o=some (.call f args sc)):
  ∃c axs,o.op=.call c∧c.callee=.value (.func f)∧cXs c.args=some axs∧args.map (·.1)=axs∧zkb7 P f=true:=by
 unfold cOp at hc;split at hc
 all_goals (try (repeat' split at hc))<;>(try (simp at hc;done))
 all_goals (try (obtain⟨z,hz,he⟩:=zda7 hc;simp at he;done))
 rename_i _ c hop _ _ f' axs h1 h2 _ fn _ _ hen;simp only[Option.some.injEq,AK.call.injEq]at hc;obtain⟨rfl,rfl,rfl⟩:=hc;exact⟨c,axs,hop,h1,h2,map_fst_zipIdx axs _,hen⟩
theorem cOp_callV {m:Mk} {ax:AX} {args:List (AX×Bool)} {sc:Bool} (hc:cOp P m o=some (.callV ax args sc)):
  ∃c x axs,o.op=.call c∧c.callee=.value x∧cX x=some ax∧cXs c.args=some axs∧args.map (·.1)=axs:=by
 unfold cOp at hc;split at hc
 all_goals (try (repeat' split at hc))<;>(try (simp at hc;done))
 all_goals (try (obtain⟨z,hz,he⟩:=zda7 hc;simp at he;done))
 rename_i _ c hop _ _ x axs _ h1 h2;obtain⟨z,hz,he⟩:=zda7 hc;simp only[AK.callV.injEq]at he;obtain⟨rfl,rfl,rfl⟩:=he;exact⟨c,x,axs,hop,h1,hz,h2,map_fst_zipIdx axs _⟩
theorem op_all {K:Orc} (hS:zae7 P K) (hI:Inv B C) (hρ:C.ρ=flat T) (hE:RepE C g a) {m:Mk} {k:AK} {site:Nat} {v:AVal} {us:List (RId×TObj)} (hc:cOp P m o=some k) (h:opT K site k g T=some (v,us)):Does P o a C.w (OwesT B C T v us):=by
 by_cases hk:∃f args sc,k=.call f args sc
 ·obtain⟨f,args,sc,rfl⟩:=hk;obtain⟨c,axs,h1,h2,h3,h4,h5⟩:=cOp_call hc;refine callE_ok (f:=f) (vals:=c.args.map a.eval) hS hI hρ hE.glob (fun _=>h5) (fun _=>?_) ?_ h
  ·simp only[execOp,h1,resolve,h2,Act.eval,Sem.run_bind,Deferred.ofValue,Sem.run_pure,Result.andThen_ok,invoke,Array.append_empty,Array.empty_append,run_enter h5]
  ·have e:((args.map fun p=>(evX g p.1,p.2)).map (·.1))=axs.map (evX g):=by
    rw[←h4,List.map_map,List.map_map];rfl
   rw[e];have:=cXs_rep (C:=C) hE h3;simpa using this
 ·by_cases hk2:∃x args sc,k=.callV x args sc
  ·obtain⟨x,args,sc,rfl⟩:=hk2;obtain⟨c,xo,axs,h1,h2,h3,h4,h5⟩:=cOp_callV hc
   have e:((args.map fun p=>(evX g p.1,p.2)).map (·.1))=axs.map (evX g):=by
    rw[←h5,List.map_map,List.map_map];rfl
   have hargs:=cXs_rep (C:=C) hE h4;have hx:=zea7 hE h3;simp only[opT]at h;split at h
   ·rename_i f caps hf;rw[hf]at hx;simp only[RepA]at hx;obtain⟨cs,hx1,hx2⟩:=hx
    have e2:((caps.map fun v=>(v,true)).map (·.1))=caps:=by
     rw[List.map_map];exact List.map_id _
    by_cases hbig:BIGF≤f
    ·rw[if_pos hbig]at h hx1;by_cases hne:f-BIGF=YID
     ·rw[if_pos hne]at h;cases h
     ·rw[if_neg hne]at h;refine callE_ok (f:=f-BIGF) (vals:=cs++c.args.map a.eval) hS hI hρ hE.glob (fun e=>absurd e hne) (fun henf=>?_) ?_ h
      ·simp only[execOp,h1,resolve,h2,hx1,Sem.run_bind,Deferred.ofValue,Sem.run_pure,Result.andThen_ok,invoke,Array.append_empty,run_enter henf]
      ·rw[List.map_append,e,e2,Array.toList_append];exact RepL.append hx2 (by simpa using hargs)
    ·rw[if_neg hbig]at h hx1;by_cases hne:f=YID
     ·rw[if_pos hne]at h;cases h
     ·rw[if_neg hne]at h;refine callE_ok (f:=f) (vals:=c.args.map a.eval++cs) hS hI hρ hE.glob (fun e=>absurd e hne) (fun henf=>?_) ?_ h
      ·simp only[execOp,h1,resolve,h2,hx1,Sem.run_bind,Deferred.ofValue,Sem.run_pure,Result.andThen_ok,invoke,Array.empty_append,run_enter henf]
      ·rw[List.map_append,e,e2,Array.toList_append];exact RepL.append (by simpa using hargs) hx2
   ·rename_i id hf;rw[hf]at hx;have hxr:=hx;simp only[RepA,if_true]at hx;obtain⟨l,hx1,hx2⟩:=hx;refine yieldE_ok (l:=l) (vals:=c.args.map a.eval) hS hI hρ hE.glob ?_ ?_ h
    ·simp only[execOp,h1,resolve,h2,hx2,Sem.run_bind,Deferred.ofValue,Sem.run_pure,Result.andThen_ok,invoke,Array.empty_append]
    ·rw[List.map_append,e,Array.toList_push];refine RepL.append (by simpa using hargs) ?_;simp only[List.map_cons,List.map_nil,RepL];rw[hx2]at hxr;exact⟨_,_,rfl,hxr,rfl⟩
   ·cases h
  ·exact opT_plain hI hρ hE ⟨fun f args sc e=>hk ⟨f,args,sc,e⟩,fun f args sc e=>hk2 ⟨f,args,sc,e⟩⟩ hc h
end
end Go.Am
