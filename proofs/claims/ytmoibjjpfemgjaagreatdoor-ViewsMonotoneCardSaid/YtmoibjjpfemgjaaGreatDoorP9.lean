/- Parts of the proofs of the statement, joined and made short: AmCall AmFrame AmFrame2 AmCode AmFrame3. -/
import Derived.Test.YtmoibjjpfemgjaaGreatDoorP8
import Derived.Test.YtmoibjjpfemgjaaGreatDoorP2
import Derived.Orders
set_option linter.unusedVariables false
set_option linter.unusedSimpArgs false
set_option linter.unusedSectionVars false
namespace Go.Am
variable [Glob]
theorem ztd7 (ρ:TLook):∀(n:Nat) (todo done res:List RId),collect ρ n todo done=some res→done.Nodup→(∀i∈done,∃o,ρ i=some o∧∀j∈o.rids,j∈done∨j∈todo)→
  res.Nodup∧(∀i∈done,i∈res)∧(∀i∈todo,i∈res)∧(∀i∈res,∃o,ρ i=some o∧∀j∈o.rids,j∈res)∧∃l,res=done++l
 |0,todo,done,res,h,_,_=>by simp[collect]at h
 |n+1,[],done,res,h,hn,hc=>by
  simp only[collect,Option.some.injEq]at h;subst h;refine⟨hn,fun _ h=>h,by simp,fun i hi=>?_,[],by simp⟩;obtain⟨o,h1,h2⟩:=hc i hi;exact⟨o,h1,fun j hj=>(h2 j hj).resolve_right (by simp)⟩
 |n+1,id::todo,done,res,h,hn,hc=>by
  simp only[collect]at h;split at h
  ·rename_i hid
   obtain⟨r1,r2,r3,r4,r5⟩:=ztd7 ρ n todo done res h hn (fun i hi=>by
    obtain⟨o,h1,h2⟩:=hc i hi;refine⟨o,h1,fun j hj=>?_⟩;rcases h2 j hj with h3|h3
    ·exact .inl h3
    ·cases h3 with
     |head=>exact .inl hid
     |tail _ h3=>exact .inr h3)
   refine⟨r1,r2,fun i hi=>?_,r4,r5⟩;cases hi with
   |head=>exact r2 _ hid
   |tail _ hi=>exact r3 i hi
  ·rename_i hid;split at h
   ·cases h
   ·rename_i o ho
    obtain⟨r1,r2,r3,r4,l,r5⟩:=ztd7 ρ n (todo++o.rids) (done++[id]) res h (by
     rw[List.nodup_append];exact⟨hn,by simp,fun a ha b hb=>by simp at hb;subst hb;intro e;subst e;exact hid ha⟩) (fun i hi=>by
     rcases List.mem_append.1 hi with hi|hi
     ·obtain⟨o',h1,h2⟩:=hc i hi;refine⟨o',h1,fun j hj=>?_⟩;rcases h2 j hj with h3|h3
      ·exact .inl (List.mem_append.2 (.inl h3))
      ·cases h3 with
       |head=>exact .inl (by simp)
       |tail _ h3=>exact .inr (List.mem_append.2 (.inl h3))
     ·simp at hi;subst hi;exact⟨o,ho,fun j hj=>.inr (List.mem_append.2 (.inr hj))⟩)
    refine⟨r1,fun i hi=>r2 i (List.mem_append.2 (.inl hi)),fun i hi=>?_,r4,[id]++l,by simp[r5]⟩;cases hi with
    |head=>exact r2 _ (by simp)
    |tail _ hi=>exact r3 i (List.mem_append.2 (.inl hi))
theorem zef7 {ρ:TLook}:∀{order:List RId} {os:List TObj},gather ρ order=some os→os.length=order.length∧∀(j:Nat) (i:RId),order[j]?=some i→os[j]?=ρ i
 |[],os,h=>by simp[gather]at h;subst h;simp
 |id::r,os,h=>by
  simp only[gather]at h;split at h
  ·rename_i o os' ho hos;simp only[Option.some.injEq]at h;subst h;obtain⟨h1,h2⟩:=zef7 hos;refine⟨by simp[h1],fun j i hj=>?_⟩;cases j with
   |zero=>simp at hj;subst hj;simp[ho]
   |succ j=>simp at hj;simpa using h2 j i hj
  ·cases h
theorem zlc7:∀{order:List RId} {i:RId},i∈order→order[zzb7 order i]?=some i
 |[],i,h=>by simp at h
 |k::r,i,h=>by
  simp only[zzb7];split
  ·rename_i e;subst e;rfl
  ·rename_i e
   have:i∈r:=by
    cases h with
    |head=>exact absurd rfl e
    |tail _ h=>exact h
   simpa using zlc7 this
theorem indexIn_lt {order:List RId} {i:RId} (h:i∈order):zzb7 order i<order.length:=(List.getElem?_eq_some_iff.1 (zlc7 h)).1
theorem zbe7 {order:List RId} (hn:order.Nodup):∀{j:Nat} {i:RId},order[j]?=some i→zzb7 order i=j:=by
 intro j i h;have h1:=zlc7 (List.mem_of_getElem? h);have h2:=(List.getElem?_eq_some_iff.1 h);have h3:=(List.getElem?_eq_some_iff.1 h1);obtain⟨l2,e2⟩:=h2;obtain⟨l3,e3⟩:=h3;exact (List.getElem_inj hn).1 (e3.trans e2.symm)
def OwnSet (C:Ctx):Cells:=fun b x=>∃id o,C.ρ id=some o∧o.own=true∧∃j,j<(C.μ id).n∧b=(C.μ id).b∧x=(C.μ id).o+j
def OwnBlk (C:Ctx):Nat→Prop:=fun b=>∃id x,C.ρ id=some (.blk x)∧(C.μ id).b=b
abbrev baseOf (C:Ctx):Base:=⟨C.w,C.F,OwnSet C,OwnBlk C,[]⟩
def zpa7 (os:List TObj):TLook:=fun id=>if id.1=0 then os[id.2]? else none
def PostOK (C:Ctx) (os:List TObj) (v:AVal) (os':List TObj) (e:Ending) (w':World):Prop:=
 ∃val C',e=.returned val∧C'.w=w'∧C'.ρ=flat (zpa7 os')∧Inv (baseOf C) C'∧RepA C' v val∧
  Ext (fun i=>i) (fun id=>id.1.1=0∧id.1.2<os.length) C C'
def CallOK (P:Program) (f:FuncId) (args:List AVal) (os:List TObj) (v:AVal) (os':List TObj):Prop:=
 ∀(C:Ctx) (vals:Array Value),C.ρ=flat (zpa7 os)→GlobOK C.F→Inv (baseOf C) C→RepL C args vals.toList→
  Calls P f vals C.w (PostOK C os v os')
def YieldOK (P:Program) (args:List AVal) (os:List TObj) (v:AVal) (os':List TObj):Prop:=
 ∀(C:Ctx) (vals:Array Value) (l:Nat),C.ρ=flat (zpa7 os)→GlobOK C.F→Inv (baseOf C) C→RepL C args (vals.push (.func (.yield l) #[] #[])).toList→
  ∃f tmps assign body,(Instr.yield l vals).run P C.w=.ok (.round l f tmps assign body) C.w∧RoundIn Fence.wide 0 P l f tmps assign body C.w (PostOK C os v os')
def zyd7 (P:Program) (K:Orc):Prop:=∀f args os v os',K f args os=some (v,os')→(f≠YID∧zkb7 P f=true∧CallOK P f args os v os')∨(f=YID∧zkb7 P f=false∧YieldOK P args os v os')
theorem renL_get (f:Id→Id):∀(l:List AVal) (j:Nat),(AVal.renL f l)[j]?=(l[j]?).map (AVal.ren f)
 |[],j=>by simp[AVal.renL]
 |a::r,0=>by simp[AVal.renL]
 |a::r,j+1=>by simp[AVal.renL,renL_get f r j]
theorem idsL_get:∀{l:List AVal} {j:Nat} {a:AVal},l[j]?=some a→∀i∈a.ids,i∈AVal.idsL l
 |[],j,a,h,i,hi=>by simp at h
 |b::r,0,a,h,i,hi=>by simp at h;subst h;simp[AVal.idsL,hi]
 |b::r,j+1,a,h,i,hi=>by simp at h;simp[AVal.idsL,idsL_get h i hi]
theorem own_ren (f:Id→Id) (o:Obj):(o.ren f).own=o.own:=by
 cases o
 case blk x=>cases x<;>rfl
 all_goals rfl
theorem zse7 {f:Id→Id} {o:Obj} {x:Blk} (h:o.ren f=.blk x):∃x',o=.blk x':=by
 cases o
 case blk x'=>exact⟨x',rfl⟩
 all_goals (simp[Obj.ren]at h)
theorem zoe7 {C C':Ctx} {i j:Id} {f:Id→Id} (h:C'.ρ j=(C.ρ i).map (Obj.ren f)) (hm:C'.μ j=C.μ i):boxAt C' j=boxAt C i∧arrAt C' j=arrAt C i∧blkAt C' j=blkAt C i:=by
 unfold boxAt arrAt blkAt;rw[h,hm];cases e:C.ρ i with
 |none=>simp
 |some ob=>
  cases ob
  case blk x=>cases x<;>simp[Obj.ren]
  all_goals simp[Obj.ren]
theorem KeptB.reflM {w:World} {T:Cells} {M:Nat→Prop} (hM:∀b,M b→nc w b):KeptB w w T M:=
 ⟨rfl,rfl,fun _ _ _=>.inr rfl,fun b _ h=>⟨hM b h,hM b h⟩,fun _ _=>rfl,Nat.le_refl _⟩
theorem EntsOK.ren {C C':Ctx} {f:Id→Id} {D:Id→Prop} (he:Ext f D C C') (hF:C'.F=C.F):∀{es:List (Dat×AVal)} {ens:List MapEntry},EntsOK C es ens→(∀i∈AVal.idsL (es.map (·.2)),D i)→EntsOK C' (es.map fun p=>(p.1,p.2.ren f)) ens
 |[],ens,h,_=>h
 |e::r,ens,h,hi=>by
  simp only[EntsOK,List.map_cons]at h ⊢;obtain⟨en,ens',h1,h2,h3,h4⟩:=h;simp only[List.map_cons,AVal.idsL,List.mem_append]at hi;exact⟨en,ens',h1,by rw[hF];exact h2,RepA.ext he e.2 _ (fun i hi'=>hi i (.inl hi')) h3,EntsOK.ren he hF h4 fun i hi'=>hi i (.inr hi')⟩
theorem ObjOK.ren {C C':Ctx} {f:Id→Id} {D:Id→Prop} {L:Loc} {o:Obj} (h:ObjOK C L o) (he:Ext f D C C') (hw:C'.w=C.w) (hF:C'.F=C.F) (hi:∀i∈o.ids,D i):ObjOK C' L (o.ren f):=by
 have hown:OwnOK C L→OwnOK C' L:=fun ho j hj=>by rw[hw,hF];exact ho j hj
 cases o with
 |blk x=>
  cases x with
  |map es=>
   obtain⟨h0,ens,clock,h1,hb,h2⟩:=h;exact⟨h0,ens,clock,by rw[hw];exact h1,hb,h2.ren he hF hi⟩
  |loop k st env=>
   obtain⟨h0,r,h1,h2,h3,h4⟩:=h;refine⟨h0,r,by rw[hw];exact h1,h2,h3,fun p hp=>?_⟩;obtain⟨q,hq,rfl⟩:=List.mem_map.1 hp;refine RepA.ext he q.2 _ (fun i hi'=>hi i ?_) (h4 q hq);obtain⟨n,hn⟩:=List.getElem?_of_mem (List.mem_map_of_mem (f:=fun x:Nat×AVal=>x.2) hq);exact idsL_get hn i hi'
  |dead=>
   obtain⟨h0,r,h1⟩:=h;exact⟨h0,r,by rw[hw];exact h1⟩
 |box cs=>
  refine⟨by rw[(zsd7 f cs).1];exact h.1,by rw[(zsd7 f cs).2];exact h.2.1,hown h.2.2.1,fun j a ha=>?_⟩;rw[renL_get]at ha;obtain⟨b,hb,rfl⟩:=zda7 ha;obtain⟨v,hv,hr⟩:=h.2.2.2 j b hb;exact⟨v,by rw[hw];exact hv,RepA.ext he b v (fun i hib=>hi i (idsL_get hb i hib)) hr⟩
 |rarr sz ver es=>
  obtain⟨h1,⟨cap,h2,h2'⟩,h3,h4,h5⟩:=h;refine⟨h1,⟨cap,h2,by simpa using h2'⟩,fun row hr=>?_,hown h4,fun i row hrow j a ha=>?_⟩
  ·obtain⟨row',hr',rfl⟩:=List.mem_map.1 hr;rw[(zsd7 f row').1,(zsd7 f row').2];exact h3 row' hr'
  ·rw[List.getElem?_map]at hrow;obtain⟨row',hrow',rfl⟩:=zda7 hrow;rw[renL_get]at ha;obtain⟨b,hb,rfl⟩:=zda7 ha;obtain⟨v,hv,hr⟩:=h5 i row' hrow' j b hb;exact⟨v,by rw[hw];exact hv,RepA.ext he b v (fun x hx=>hi x (by simp only[Obj.ids];exact List.mem_flatMap.2 ⟨row',List.mem_of_getElem? hrow',idsL_get hb x hx⟩)) hr⟩
 |arr sz ver fz es=>
  obtain⟨h1,h2,h3,h4⟩:=h;refine⟨h1,h2,fun e=>⟨hown (h3 e).1,?_⟩,fun e=>by rw[hF];exact h4 e⟩;rw[hw,hF];exact (h3 e).2
theorem cellA_ren (f:RId→RId) (r:RId) (pv i:Nat) (c:Cell):(cellA r pv i c).ren (liftF f)=cellA (f r) pv i c:=by
 cases c with
 |nil=>rfl
 |d l=>rfl
 |own fr fz sz l=>cases fr<;>rfl
theorem rowsA_ren (f:RId→RId) (r:RId) (pv:Nat):∀(k:Nat) (cells:List Cell),(rowsA r pv k cells).map (AVal.renL (liftF f))=rowsA (f r) pv k cells
 |k,[]=>rfl
 |k,c::cs=>by simp[rowsA,AVal.renL,cellA_ren,rowsA_ren f r pv (k+1) cs]
theorem entsA_ren (f:RId→RId) (r:RId) (pv:Nat):∀(k:Nat) (es:List (Dat×Cell)),(entsA r pv k es).map (fun p=>(p.1,p.2.ren (liftF f)))=entsA (f r) pv k es
 |k,[]=>rfl
 |k,c::cs=>by simp[entsA,cellA_ren,entsA_ren f r pv (k+1) cs]
theorem entsA_ids (r:RId) (pv:Nat):∀(k:Nat) (es:List (Dat×Cell)),∀x∈AVal.idsL ((entsA r pv k es).map (·.2)),x.1=r
 |k,[],x,h=>by simp[entsA,AVal.idsL]at h
 |k,c::cs,x,h=>by
  simp only[entsA,List.map_cons,AVal.idsL,List.mem_append]at h;rcases h with h|h
  ·cases hc:c.2 with
   |nil=>rw[hc]at h;simp[cellA,AVal.ids]at h
   |d l=>rw[hc]at h;simp[cellA,AVal.ids]at h
   |own fr fz sz l=>
    rw[hc]at h;cases fr with
    |true=>simp[cellA,AVal.ids]at h;rw[h]
    |false=>simp[cellA,AVal.ids]at h
  ·exact entsA_ids r pv (k+1) cs x h
theorem kidO_ren (f:Id→Id) (pv:Nat) (c:Option Cell):(kidO pv c).ren f=kidO pv c:=by
 obtain⟨sz,fz,l,q⟩:=zic7 pv c;rw[q];rfl
theorem flatR_ren (f:RId→RId) (r:RId) (i j:Nat) (o:TObj):flatR (f r) i j (o.tren f)=(flatR r i j o).map (Obj.ren (liftF f)):=by
 cases o with
 |plain o=>simp only[TObj.tren,flatR];split<;>rfl
 |fam ver pv fz cells=>
  simp only[TObj.tren,flatR];split
  ·cases i with
   |zero=>
    simp only[Option.map_some,Option.some.injEq];cases fz with
    |true=>rfl
    |false=>simp[Obj.ren,rowsA_ren]
   |succ i=>simp[kidO_ren]
  ·rfl
 |mapf pv es=>
  simp only[TObj.tren,flatR];split
  ·cases i with
   |zero=>simp[Obj.ren,entsA_ren]
   |succ i=>simp[kidO_ren]
  ·rfl
theorem flatR_ids {r:RId} {i j:Nat} {o:TObj} {ob:Obj} (h:flatR r i j o=some ob):∀x∈ob.ids,x.1∈o.rids∨x.1=r:=by
 intro x hx;cases o with
 |mapf pv es=>
  simp only[flatR]at h;split at h
  ·cases i with
   |zero=>
    simp only[Option.some.injEq]at h;subst h;exact .inr (entsA_ids r pv 0 es x hx)
   |succ i=>
    simp only[Option.some.injEq]at h;subst h;obtain⟨sz,fz,l,q⟩:=zic7 pv (es[i]?.map (·.2));rw[q]at hx;simp[Obj.ids]at hx
  ·cases h
 |plain o=>
  simp only[flatR]at h;split at h
  ·simp only[Option.some.injEq]at h;subst h;exact .inl (List.mem_map.2 ⟨x,hx,rfl⟩)
  ·cases h
 |fam ver pv fz cells=>
  simp only[flatR]at h;split at h
  ·cases i with
   |zero=>
    simp only[Option.some.injEq]at h;subst h;cases fz with
    |true=>simp[Obj.ids]at hx
    |false=>
     simp only[Bool.false_eq_true,if_false,Obj.ids]at hx;obtain⟨row,hr,hx⟩:=List.mem_flatMap.1 hx;obtain⟨k,hk⟩:=List.getElem?_of_mem hr;rw[zjb7]at hk;obtain⟨c,_,rfl⟩:=zda7 hk;right;cases c with
     |nil=>simp[cellA,AVal.idsL,AVal.ids]at hx
     |d l=>simp[cellA,AVal.idsL,AVal.ids]at hx
     |own fr fz' sz l=>
      cases fr with
      |false=>simp[cellA,AVal.idsL,AVal.ids]at hx
      |true=>simp[cellA,AVal.idsL,AVal.ids]at hx;rw[hx]
   |succ i=>
    simp only[Option.some.injEq]at h;subst h;obtain⟨sz,fz',l,q⟩:=zic7 pv cells[i]?;rw[q]at hx;simp[Obj.ids]at hx
  ·cases h
section
variable {P:Program} {o:Oper} {a:Act} {B:Base} {C:Ctx} {g:Nat→AVal} {T:TLook}
def zoa7 (C1:Ctx) (order:List RId) (os:List TObj):Ctx:=
 { w:=C1.w,F:=C1.F,μ:=fun id=>C1.μ (order[id.1.2]?.getD (0,0),id.2),ρ:=flat (zpa7 os) }
theorem callee_inv {C1:Ctx} (hI:Inv B C1) (hT:C1.ρ=flat T) {order:List RId} {os:List TObj} (hn:order.Nodup) (hcl:∀i∈order,∃o,T i=some o∧∀j∈o.rids,j∈order)
  (hos:os.length=order.length) (hget:∀(j:Nat) (i:RId),order[j]?=some i→os[j]?=T i):
  Ext (liftF (toPos order)) (fun i=>i.1∈order) C1 (zoa7 C1 order (os.map (TObj.tren (toPos order))))∧
  Inv (baseOf (zoa7 C1 order (os.map (TObj.tren (toPos order))))) (zoa7 C1 order (os.map (TObj.tren (toPos order)))):=by
 have look:∀i:Id,i.1∈order→(zoa7 C1 order (os.map (TObj.tren (toPos order)))).ρ (liftF (toPos order) i)=(C1.ρ i).map (Obj.ren (liftF (toPos order))):=by
  intro i hi;have h1:=hget _ _ (zlc7 hi);obtain⟨o,h2,_⟩:=hcl _ hi;rw[h2]at h1;rw[hT];simp only[zoa7,flat,liftF,h2];have:zpa7 (os.map (TObj.tren (toPos order))) (toPos order i.1)=some (o.tren (toPos order)):=by simp[zpa7,toPos,h1]
  rw[this];exact flatR_ren _ _ _ _ _
 have locOf:∀i:Id,i.1∈order→(zoa7 C1 order (os.map (TObj.tren (toPos order)))).μ (liftF (toPos order) i)=C1.μ i:=by
  intro i hi;simp[zoa7,toPos,liftF,zlc7 hi]
 have back:∀id o,(zoa7 C1 order (os.map (TObj.tren (toPos order)))).ρ id=some o→∃(i:Id) (o1:Obj),i.1∈order∧id=liftF (toPos order) i∧C1.ρ i=some o1∧o=o1.ren (liftF (toPos order)):=by
  intro id o ho;have ho':=ho;simp only[zoa7,flat,zpa7]at ho;split at ho
  ·rename_i o' he;split at he
   ·rename_i h0;rw[List.getElem?_map]at he;obtain⟨o1,h1,h2⟩:=zda7 he;have hlt:=(List.getElem?_eq_some_iff.1 h1).1;have hi:order[id.1.2]?=some order[id.1.2]:=List.getElem?_eq_getElem (by omega)
    have hid:id=liftF (toPos order) (order[id.1.2],id.2):=by
     rw[liftF,toPos,zbe7 hn hi,←h0]
    have hmem:order[id.1.2]∈order:=List.getElem_mem _;have:=look (order[id.1.2],id.2) hmem;rw[←hid,ho']at this;obtain⟨ob,h3,h4⟩:=zda7 this.symm;exact⟨_,ob,hmem,hid,h3,h4.symm⟩
   ·cases he
  ·cases ho
 have hext:Ext (liftF (toPos order)) (fun i=>i.1∈order) C1 (zoa7 C1 order (os.map (TObj.tren (toPos order)))):=by
  refine⟨fun _ _ _ h=>h,fun i L hi hb=>?_,fun i A hi ha=>⟨A,?_,Nat.le_refl _,fun _=>⟨rfl,rfl,Nat.le_refl _⟩⟩,fun i b hi hb=>?_⟩
  ·rw[(zoe7 (look i hi) (locOf i hi)).1];exact hb
  ·rw[(zoe7 (look i hi) (locOf i hi)).2.1];exact ha
  ·rw[(zoe7 (look i hi) (locOf i hi)).2.2];exact hb
 have hids:∀i:Id,i.1∈order→∀o1,C1.ρ i=some o1→∀x∈o1.ids,x.1∈order:=by
  intro i hi o1 ho1 x hx;obtain⟨o,h2,h3⟩:=hcl _ hi;rw[hT]at ho1;simp only[flat,h2]at ho1;rcases flatR_ids ho1 x hx with h|h
  ·exact h3 _ h
  ·rw[h];exact hi
 refine⟨hext,?_⟩;refine⟨fun id o ho=>?_,fun i1 i2 o1 o2 ho1 ho2 hw1 hw2 hne j1 j2 hj1 hj2=>?_,fun id o ho hw j hj=>.inl ⟨id,o,ho,hw,j,hj,rfl,rfl⟩,fun i1 i2 x1 x2 hx1 hx2 hne=>?_,fun i x hx=>.inl ⟨i,x,hx,rfl⟩,KeptB.reflM ?_,fun b o v hv=>hI.Fw b o v hv,fun _ _ _ h=>h,fun _ _ _ h=>.inl h⟩
 ·obtain⟨i,o1,hi,rfl,h1,rfl⟩:=back id o ho;rw[locOf i hi];exact (hI.objs i o1 h1).ren hext rfl rfl (hids i hi o1 h1)
 ·obtain⟨a1,b1,c1,rfl,d1,rfl⟩:=back i1 o1 ho1;obtain⟨a2,b2,c2,rfl,d2,rfl⟩:=back i2 o2 ho2;rw[locOf a1 c1]at hj1 ⊢;rw[locOf a2 c2]at hj2 ⊢;rw[own_ren]at hw1 hw2;exact hI.disj a1 a2 b1 b2 d1 d2 hw1 hw2 (fun e=>hne (by rw[e])) j1 j2 hj1 hj2
 ·obtain⟨a1,b1,c1,rfl,d1,e1⟩:=back i1 _ hx1;obtain⟨a2,b2,c2,rfl,d2,e2⟩:=back i2 _ hx2;rw[locOf a1 c1,locOf a2 c2];obtain⟨y1,rfl⟩:=zse7 e1.symm;obtain⟨y2,rfl⟩:=zse7 e2.symm;exact hI.bdisj a1 a2 y1 y2 d1 d2 (fun e=>hne (by rw[e]))
 ·rintro b ⟨i,x,hx,rfl⟩;obtain⟨a1,b1,c1,rfl,d1,e1⟩:=back i _ hx;rw[locOf a1 c1];obtain⟨y1,rfl⟩:=zse7 e1.symm;exact (hI.objs a1 _ d1).2.nc.2
theorem scal_rep {C C':Ctx} {v:AVal} {val:Value} (h:scalV v=true) (hr:RepA C v val):RepA C' v val:=by
 have one:∀d v,scalD d=true→RepV C.F d v→RepV C'.F d v:=by
  intro d v hd hv;refine⟨?_,hv.2⟩;have:=hv.1;cases d<;>simp[scalD]at hd<;>simpa only[RepD]using this
 cases v with
 |dat d=>simp only[RepA]at hr ⊢;exact one d val h hr
 |tup l=>
  simp only[RepA]at hr ⊢;obtain⟨cs,h1,h2⟩:=hr;refine⟨cs,h1,?_⟩;simp only[scalV]at h;generalize cs.toList=us at h2;clear h1
  induction l generalizing us with
  |nil=>simpa only[RepL]using h2
  |cons x r ih=>
   simp only[RepL]at h2 ⊢;obtain⟨c,cs',e1,e2,e3⟩:=h2;simp only[List.all_cons,Bool.and_eq_true]at h;refine⟨c,cs',e1,?_,ih h.2 cs' e3⟩;cases x with
   |dat d=>simp only[RepA]at e2 ⊢;exact one d c h.1 e2
   |_=>simp at h
 |_=>simp[scalV]at h
end
mutual
theorem RepA.live {C:Ctx}:∀(a:AVal) (v:Value),RepA C a v→∀i∈a.ids,∃ob,C.ρ i=some ob
 |.dat d,v,h,i,hi=>by simp[AVal.ids]at hi
 |.nils,v,h,i,hi=>by simp[AVal.ids]at hi
 |.emp t,v,h,i,hi=>by simp[AVal.ids]at hi
 |.cap0,v,h,i,hi=>by simp[AVal.ids]at hi
 |.junk,v,h,i,hi=>by simp[AVal.ids]at hi
 |.nilp,v,h,i,hi=>by simp[AVal.ids]at hi
 |.undef,v,h,i,hi=>by simp[AVal.ids]at hi
 |.fp l,v,h,i,hi=>by simp[AVal.ids]at hi
 |.ref id off,v,h,i,hi=>by
  simp only[AVal.ids,List.mem_singleton]at hi;subst hi;simp only[RepA]at h;obtain⟨L,h1,_⟩:=h;unfold boxAt at h1;split at h1
  ·rename_i e;exact⟨_,e⟩
  ·cases h1
 |.eref id ver j off,v,h,i,hi=>by
  simp only[AVal.ids,List.mem_singleton]at hi;subst hi;simp only[RepA]at h;obtain⟨A,p,h1,_⟩:=h;unfold arrAt at h1;split at h1
  ·rename_i e;exact⟨_,e⟩
  ·rename_i e;exact⟨_,e⟩
  ·cases h1
 |.rsl id ver sz off len,v,h,i,hi=>by
  simp only[AVal.ids,List.mem_singleton]at hi;subst hi;simp only[RepA]at h;obtain⟨A,p,cap,h1,_⟩:=h;unfold arrAt at h1;split at h1
  ·rename_i e;exact⟨_,e⟩
  ·rename_i e;exact⟨_,e⟩
  ·cases h1
 |.lits sz n l,v,h,i,hi=>by
  simp only[RepA]at h;obtain⟨b,o,cap,cs,_,_,_,h3,_⟩:=h;exact RepL.live l cs h3 i (by simpa[AVal.ids]using hi)
 |.agg l,v,h,i,hi=>by
  simp only[RepA]at h;obtain⟨cs,_,h3,_⟩:=h;exact RepL.live l _ h3 i (by simpa[AVal.ids]using hi)
 |.tup l,v,h,i,hi=>by
  simp only[RepA]at h;obtain⟨cs,_,h3⟩:=h;exact RepL.live l _ h3 i (by simpa[AVal.ids]using hi)
 |.fn f l,v,h,i,hi=>by
  simp only[RepA]at h;obtain⟨cs,_,h3⟩:=h;exact RepL.live l _ h3 i (by simpa[AVal.ids]using hi)
 |.bref y id,v,h,i,hi=>by
  simp only[AVal.ids,List.mem_singleton]at hi;subst hi;simp only[RepA]at h;obtain⟨b,h1,_⟩:=h;unfold blkAt at h1;split at h1
  ·rename_i e;exact⟨_,e⟩
  ·cases h1
theorem RepL.live {C:Ctx}:∀(l:List AVal) (cs:List Value),RepL C l cs→∀i∈AVal.idsL l,∃ob,C.ρ i=some ob
 |[],cs,h,i,hi=>by simp[AVal.idsL]at hi
 |a::r,cs,h,i,hi=>by
  simp only[RepL]at h;obtain⟨c,cs',_,h2,h3⟩:=h;simp only[AVal.idsL,List.mem_append]at hi;rcases hi with hi|hi
  ·exact RepA.live a c h2 i hi
  ·exact RepL.live r cs' h3 i hi
end
theorem cells_live {C:Ctx} {L:Loc}:∀(l:List AVal) (k:Nat),(∀(j:Nat) (a:AVal),l[j]?=some a→∃v,C.w.cell? ⟨L.b,L.o+(k+j),none⟩=some v∧RepA C a v)→∀i∈AVal.idsL l,∃ob,C.ρ i=some ob
 |[],k,h,i,hi=>by simp[AVal.idsL]at hi
 |a::r,k,h,i,hi=>by
  simp only[AVal.idsL,List.mem_append]at hi;rcases hi with hi|hi
  ·obtain⟨v,_,hr⟩:=h 0 a rfl;exact RepA.live a v hr i hi
  ·exact cells_live r (k+1) (fun j b hb=>by
    obtain⟨v,h1,h2⟩:=h (j+1) b (by simpa using hb);exact⟨v,by rwa [show k+1+j=k+(j+1) by omega],h2⟩) i hi
theorem ObjOK.live {C:Ctx} {L:Loc} {ob:Obj} (h:ObjOK C L ob):∀i∈ob.ids,∃o',C.ρ i=some o':=by
 cases ob with
 |blk x=>
  cases x with
  |map es=>
   obtain⟨_,ens,clock,_,_,h4⟩:=h;intro i hi;simp only[Obj.ids]at hi
   have:∀(es:List (Dat×AVal)) (ens:List MapEntry),EntsOK C es ens→i∈AVal.idsL (es.map (·.2))→∃o',C.ρ i=some o':=by
    intro es
    induction es with
    |nil=>intro ens _ h;simp[AVal.idsL]at h
    |cons e r ih=>
     intro ens hE h;simp only[EntsOK]at hE;obtain⟨en,ens',_,_,e3,e4⟩:=hE;simp only[List.map_cons,AVal.idsL,List.mem_append]at h;rcases h with h|h
     ·exact RepA.live _ _ e3 i h
     ·exact ih _ e4 h
   exact this es _ h4 hi
  |dead=>intro i hi;simp[Obj.ids]at hi
  |loop k st env=>
   obtain⟨_,r,_,_,_,h4⟩:=h;intro i hi;simp only[Obj.ids]at hi
   have:∀(l:List AVal),i∈AVal.idsL l→∃x∈l,i∈x.ids:=by
    intro l
    induction l with
    |nil=>intro h;simp[AVal.idsL]at h
    |cons x r ih=>
     intro h;simp only[AVal.idsL,List.mem_append]at h;rcases h with h|h
     ·exact⟨x,by simp,h⟩
     ·obtain⟨y,h1,h2⟩:=ih h;exact⟨y,by simp[h1],h2⟩
   obtain⟨x,hx,hix⟩:=this _ hi;obtain⟨p,hp,rfl⟩:=List.mem_map.1 hx;exact RepA.live _ _ (h4 p hp) i hix
 |box cs=>exact cells_live cs 0 (fun j a ha=>by have:=h.2.2.2 j a ha;simpa using this)
 |rarr sz ver es=>
  intro i hi;simp only[Obj.ids]at hi;obtain⟨row,hr,hi⟩:=List.mem_flatMap.1 hi;obtain⟨k,hk⟩:=List.getElem?_of_mem hr;obtain⟨h1,h2,h3,h4,h5⟩:=h;exact cells_live (L:=⟨L.b,L.o+k*sz,0⟩) row 0 (fun j a ha=>by simpa using h5 k row hk j a ha) i hi
 |arr sz ver fz es=>intro i hi;simp[Obj.ids]at hi
theorem updT_zip:∀{ids:List RId} {os:List TObj},ids.Nodup→ids.length=os.length→∀(ρ:TLook) (i:RId),updT ρ (ids.zip os) i=if i∈ids then os[zzb7 ids i]? else ρ i
 |[],os,_,_,ρ,i=>by simp[updT]
 |id::r,[],_,hl,ρ,i=>by simp at hl
 |id::r,o::os,hn,hl,ρ,i=>by
  simp only[List.zip_cons_cons,updT];rw[List.nodup_cons]at hn;rw[updT_zip hn.2 (by simpa using hl)];by_cases e:id=i
  ·subst e;simp[hn.1,zzb7]
  ·simp only[List.mem_cons,zzb7,e,if_false];by_cases hi:i∈r
   ·simp[hi]
   ·have e':¬i=id:=fun x=>e x.symm
    simp[hi,e']
section
variable {P:Program} {o:Oper} {a:Act} {B:Base} {C:Ctx} {g:Nat→AVal} {T:TLook}
theorem ids_spec {order:List RId} {site n:Nat} (hn:order.Nodup) (hm:order.length≤n) (hfresh:∀j,j<n-order.length→(site+1,j)∉order):
  ((List.range n).map fun j=>zdb7 order site (0,j)).Nodup∧(∀j,j<n→((List.range n).map fun j=>zdb7 order site (0,j))[j]?=some (zdb7 order site (0,j)))∧
  (∀i∈order,i∈((List.range n).map fun j=>zdb7 order site (0,j)))∧
  (∀i∈((List.range n).map fun j=>zdb7 order site (0,j)),i∈order∨∃j,j<n-order.length∧i=(site+1,j)):=by
 have val:∀j,zdb7 order site (0,j)=if h:j<order.length then order[j] else (site+1,j-order.length):=by
  intro j;unfold zdb7;by_cases h:j<order.length
  ·simp[h]
  ·simp[h,List.getElem?_eq_none (Nat.le_of_not_lt h)]
 refine⟨?_,fun j hj=>by simp[hj],fun i hi=>?_,fun i hi=>?_⟩
 ·rw[List.Nodup,List.pairwise_map];refine List.Pairwise.imp_of_mem ?_ (List.pairwise_lt_range (n:=n));intro x y hx hy hlt;rw[val,val];have hy':y<n:=by simpa using hy
  by_cases h1:x<order.length
  ·by_cases h2:y<order.length
   ·rw[dif_pos h1,dif_pos h2];intro e;have:=(List.getElem_inj hn).1 e;omega
   ·rw[dif_pos h1,dif_neg h2];intro e;exact hfresh (y-order.length) (by omega) (e▸List.getElem_mem h1)
  ·have h2:¬y<order.length:=by omega
   rw[dif_neg h1,dif_neg h2];intro e;simp only[Prod.mk.injEq]at e;omega
 ·rw[List.mem_map];refine⟨zzb7 order i,by have:=indexIn_lt hi;simp;omega,?_⟩;have:=zlc7 hi;simp[zdb7,this]
 ·rw[List.mem_map]at hi;obtain⟨j,hj,rfl⟩:=hi;rw[val];simp at hj;split
  ·exact .inl (List.getElem_mem _)
  ·exact .inr ⟨j-order.length,by omega,rfl⟩
def afterCtx (C1 C':Ctx) (T:TLook) (ids:List RId) (os:List TObj):Ctx:=
 { w:=C'.w,F:=C'.F,μ:=fun id=>if id.1∈ids then C'.μ ((0,zzb7 ids id.1),id.2) else C1.μ id,ρ:=flat fun r=>if r∈ids then os[zzb7 ids r]? else T r }
theorem after_inv {C1 Ce C':Ctx} (hI:Inv B C1) (hT:C1.ρ=flat T) {order:List RId} {os os':List TObj} {site:Nat} (hn:order.Nodup) (hcl:∀i∈order,∃o,T i=some o∧∀j∈o.rids,j∈order)
  (hlen:os.length=order.length) (hCe:Ce=zoa7 C1 order (os.map (TObj.tren (toPos order)))) (hext:Ext (liftF (toPos order)) (fun i=>i.1∈order) C1 Ce)
  (hget:∀(j:Nat) (i:RId),order[j]?=some i→os[j]?=T i)
  (hm:order.length≤os'.length) (hfresh:∀j,j<os'.length-order.length→T (site+1,j)=none)
  (hρ':C'.ρ=flat (zpa7 os')) (hI':Inv (baseOf Ce) C') (hx:Ext (fun i=>i) (fun id=>id.1.1=0∧id.1.2<os.length) Ce C'):
  let ids:=(List.range os'.length).map fun j=>zdb7 order site (0,j)
  let C2:=afterCtx C1 C' T ids (os'.map (TObj.tren (zdb7 order site)))
  Inv B C2∧Grow C1 C2∧Ext (liftF (zdb7 order site)) (fun id=>id.1.1=0∧id.1.2<os'.length) C' C2:=by
 intro ids C2
 have hfo:∀j,j<os'.length-order.length→(site+1,j)∉order:=by
  intro j hj hmem;obtain⟨o,h1,_⟩:=hcl _ hmem;rw[hfresh j hj]at h1;cases h1
 obtain⟨n1,n2,n3,n4⟩:=ids_spec (site:=site) (n:=os'.length) hn hm hfo;have hidx:∀j,j<os'.length→zzb7 ids (zdb7 order site (0,j))=j:=fun j hj=>zbe7 n1 (n2 j hj)
 have hmem:∀j,j<os'.length→zdb7 order site (0,j)∈ids:=fun j hj=>List.mem_of_getElem? (n2 j hj)
 have hilt:∀i,i∈ids→zzb7 ids i<os'.length:=fun i hi=>by have:=indexIn_lt hi;simpa[ids]using this
 have hfrom:∀i,i∈ids→zdb7 order site (0,zzb7 ids i)=i:=by
  intro i hi;have h1:=zlc7 hi;have h2:=n2 _ (hilt i hi);rw[h1]at h2;exact (Option.some.inj h2).symm
 have look2:∀j p,j<os'.length→C2.ρ (zdb7 order site (0,j),p)=(C'.ρ ((0,j),p)).map (Obj.ren (liftF (zdb7 order site))):=by
  intro j p hj;rw[hρ'];simp only[C2,afterCtx,flat,zpa7,hmem j hj,if_true,hidx j hj,List.getElem?_map];cases e:os'[j]? with
  |none=>rfl
  |some o=>exact flatR_ren _ _ _ _ _
 have loc2:∀j p,j<os'.length→C2.μ (zdb7 order site (0,j),p)=C'.μ ((0,j),p):=by
  intro j p hj;simp only[C2,afterCtx,hmem j hj,if_true,hidx j hj]
 have look':∀id ob,C'.ρ id=some ob→id=((0,id.1.2),id.2)∧id.1.2<os'.length:=by
  intro id ob hob;rw[hρ']at hob;simp only[flat,zpa7]at hob;split at hob
  ·rename_i o' he;split at he
   ·rename_i h0;exact⟨by rw[←h0],(List.getElem?_eq_some_iff.1 he).1⟩
   ·cases he
  ·cases hob
 have hextB:Ext (liftF (zdb7 order site)) (fun id=>id.1.1=0∧id.1.2<os'.length) C' C2:=by
  have at2:∀i:Id,i.1.1=0∧i.1.2<os'.length→boxAt C2 (liftF (zdb7 order site) i)=boxAt C' i∧arrAt C2 (liftF (zdb7 order site) i)=arrAt C' i∧blkAt C2 (liftF (zdb7 order site) i)=blkAt C' i:=by
   intro i hi;have ei:i=((0,i.1.2),i.2):=by rw[←hi.1]
   rw[ei];exact zoe7 (look2 _ _ hi.2) (loc2 _ _ hi.2)
  refine⟨fun _ _ _ h=>h,fun i L hi hb=>?_,fun i A hi ha=>⟨A,?_,Nat.le_refl _,fun _=>⟨rfl,rfl,Nat.le_refl _⟩⟩,fun i b hi hb=>?_⟩
  ·rw[(at2 i hi).1];exact hb
  ·rw[(at2 i hi).2.1];exact ha
  ·rw[(at2 i hi).2.2];exact hb
 have other:∀i:Id,i.1∉ids→C2.ρ i=C1.ρ i∧C2.μ i=C1.μ i:=by
  intro i hi;refine⟨?_,by simp only[C2,afterCtx,hi,if_false]⟩;rw[hT];simp only[C2,afterCtx];exact zka7 (by simp only[hi,if_false])
 have hback:∀i:Id,i.1∈order→(toPos order i.1).1=0∧(toPos order i.1).2<os'.length∧(toPos order i.1).2<os.length∧liftF (zdb7 order site) (liftF (toPos order) i)=i:=by
  intro i hi;have:=indexIn_lt hi;refine⟨rfl,by simp only[toPos];omega,by simp only[toPos];omega,?_⟩;simp[zdb7,toPos,liftF,zlc7 hi]
 have notOrder:∀i:Id,i.1∈ids→i.1∉order→C1.ρ i=none:=by
  intro i hi ho;rcases n4 i.1 hi with h|⟨j,hj,e⟩
  ·exact absurd h ho
  ·rw[hT];have:T i.1=none:=by rw[e];exact hfresh j hj
   simp[flat,this]
 have hgrow:Grow C1 C2:=by
  refine⟨fun b x v hv=>?_,fun i L _ hb=>?_,fun i A _ ha=>?_,fun i c _ hb=>?_⟩;rotate_left 3
  ·by_cases hi:i.1∈ids
   ·by_cases ho:i.1∈order
    ·obtain⟨b1,b2,b3,b4⟩:=hback i ho;have h1:=hext.blk i c ho hb;have h2:=hx.blk _ c ⟨b1,b3⟩ h1;have h3:=hextB.blk _ c ⟨b1,b2⟩ h2;simpa[b4]using h3
    ·simp[blkAt,notOrder i hi ho]at hb
   ·obtain⟨q1,q2⟩:=other i hi;simpa[blkAt,q1,q2]using hb
  ·have h1:Ce.F b x=some v:=by subst hCe;exact hv
   exact hI'.Fsub _ _ _ h1
  ·by_cases hi:i.1∈ids
   ·by_cases ho:i.1∈order
    ·obtain⟨b1,b2,b3,b4⟩:=hback i ho;have h1:=hext.box i L ho hb;have h2:=hx.box _ L ⟨b1,b3⟩ h1;have h3:=hextB.box _ L ⟨b1,b2⟩ h2;simpa[b4]using h3
    ·simp[boxAt,notOrder i hi ho]at hb
   ·obtain⟨q1,q2⟩:=other i hi;simpa[boxAt,q1,q2]using hb
  ·by_cases hi:i.1∈ids
   ·by_cases ho:i.1∈order
    ·obtain⟨b1,b2,b3,b4⟩:=hback i ho;obtain⟨A1,h1,v1,e1⟩:=hext.arr i A ho ha;obtain⟨A2,h2,v2,e2⟩:=hx.arr _ A1 ⟨b1,b3⟩ h1;obtain⟨A3,h3,v3,e3⟩:=hextB.arr _ A2 ⟨b1,b2⟩ h2;refine⟨A3,by simpa[b4]using h3,by omega,fun e=>?_⟩;obtain⟨x1,x2,x3⟩:=e1 (by omega);obtain⟨y1,y2,y3⟩:=e2 (by omega);obtain⟨z1,z2,z3⟩:=e3 (by omega);exact⟨by rw[z1,y1,x1],by rw[z2,y2,x2],by omega⟩
    ·simp[arrAt,notOrder i hi ho]at ha
   ·obtain⟨q1,q2⟩:=other i hi;exact⟨A,by simpa[arrAt,q1,q2]using ha,Nat.le_refl _,fun _=>⟨rfl,rfl,Nat.le_refl _⟩⟩
 have hCew:Ce.w=C1.w:=by subst hCe;rfl
 have hCeF:Ce.F=C1.F:=by subst hCe;rfl
 have hkept:KeptB C1.w C2.w (OwnSet Ce) (OwnBlk Ce):=by have:=hI'.kept;simp only at this;rw[hCew]at this;exact this
 have back0:∀id ob,Ce.ρ id=some ob→∃(i:Id) (ob1:Obj),i.1∈order∧C1.ρ i=some ob1∧ob=ob1.ren (liftF (toPos order))∧Ce.μ id=C1.μ i:=by
  intro id ob h1;subst hCe;simp only[zoa7,flat,zpa7]at h1;split at h1
  ·rename_i o' he;split at he
   ·rename_i h0;rw[List.getElem?_map]at he;obtain⟨o1,g1,g2⟩:=zda7 he;have hlt:=(List.getElem?_eq_some_iff.1 g1).1;have hi:order[id.1.2]?=some order[id.1.2]:=List.getElem?_eq_getElem (by omega);have hμ:(zoa7 C1 order (os.map (TObj.tren (toPos order)))).μ id=C1.μ (order[id.1.2],id.2):=by simp[zoa7,hi]
    have hTi:T order[id.1.2]=some o1:=by rw[←hget _ _ hi,g1]
    have hid1:id.1=toPos order order[id.1.2]:=by rw[toPos,zbe7 hn hi,←h0]
    rw[←g2,hid1,flatR_ren]at h1;obtain⟨ob1,q1,q2⟩:=zda7 h1;exact⟨(order[id.1.2],id.2),ob1,List.getElem_mem _,by rw[hT];simp only[flat,hTi];exact q1,q2.symm,hμ⟩
   ·cases he
  ·cases h1
 have hown0:∀b x,OwnSet Ce b x→∃(i:Id) (ob:Obj),i.1∈order∧C1.ρ i=some ob∧ob.own=true∧∃j,j<(C1.μ i).n∧b=(C1.μ i).b∧x=(C1.μ i).o+j:=by
  rintro b x ⟨id,ob,h1,h2,j,hj,rfl,rfl⟩;obtain⟨i,ob1,q1,q2,rfl,q3⟩:=back0 id ob h1;rw[q3]at hj ⊢;rw[own_ren]at h2;exact⟨i,ob1,q1,q2,h2,j,hj,rfl,rfl⟩
 have hown0B:∀b,OwnBlk Ce b→∃(i:Id) (x:Blk),i.1∈order∧C1.ρ i=some (.blk x)∧b=(C1.μ i).b:=by
  rintro b ⟨id,x,h1,rfl⟩;obtain⟨i,ob1,q1,q2,q4,q3⟩:=back0 id _ h1;obtain⟨x',rfl⟩:=zse7 q4.symm;exact⟨i,x',q1,q2,by rw[q3]⟩
 have ownB:∀b x,OwnSet Ce b x→B.O b x∨B.w.heap.size≤b:=by
  intro b x h;obtain⟨i,ob,_,h2,h3,j,hj,rfl,rfl⟩:=hown0 b x h;exact hI.own i ob h2 h3 j hj
 have hFnew:∀b x v,C2.F b x=some v→C1.F b x=some v∨C1.w.heap.size≤b∨OwnSet Ce b x:=by
  intro b x v hv;rcases hI'.Fnew b x v hv with h|h|h
  ·change Ce.F b x=some v at h;rw[hCeF]at h;exact .inl h
  ·exact .inr (.inr h)
  ·change Ce.w.heap.size≤b at h;rw[hCew]at h;exact .inr (.inl h)
 have notOwn:∀(i:Id) ob,i.1∉ids→C1.ρ i=some ob→ob.own=true→∀j,j<(C1.μ i).n→¬OwnSet Ce (C1.μ i).b ((C1.μ i).o+j):=by
  intro i ob hi h1 h2 j hj hcon;obtain⟨i',ob',h3,h4,h5,j',hj',e1,e2⟩:=hown0 _ _ hcon;exact hI.disj i i' ob ob' h1 h4 h2 h5 (fun e=>hi (by rw[e];exact n3 _ h3)) j j' hj hj' ⟨e1,e2⟩
 have notOwnB:∀(i:Id) x,i.1∉ids→C1.ρ i=some (.blk x)→¬OwnBlk Ce (C1.μ i).b:=by
  intro i x hi h1 hcon;obtain⟨i',x',h3,h4,h5⟩:=hown0B _ hcon;exact hI.bdisj i i' x x' h1 h4 (fun e=>hi (by rw[e];exact n3 _ h3)) h5
 have blkLt:∀(i:Id) x,C1.ρ i=some (.blk x)→(C1.μ i).b<C1.w.heap.size:=fun i x h=>(hI.objs i _ h).2.nc.1
 have got:∀(i:Id) ob,i.1∈ids→C2.ρ i=some ob→∃ob',C'.ρ ((0,zzb7 ids i.1),i.2)=some ob'∧ob=ob'.ren (liftF (zdb7 order site))∧C2.μ i=C'.μ ((0,zzb7 ids i.1),i.2):=by
  intro i ob hi hob;have h1:=look2 _ i.2 (hilt i.1 hi);have h2:=loc2 _ i.2 (hilt i.1 hi);rw[hfrom i.1 hi]at h1 h2;rw[show C2.ρ (i.1,i.2)=C2.ρ i from rfl,hob]at h1;obtain⟨ob',h3,h4⟩:=zda7 h1.symm;exact⟨ob',h3,h4.symm,h2⟩
 have ownLoc:∀(i:Id) ob,i.1∈ids→C2.ρ i=some ob→ob.own=true→∀j,j<(C2.μ i).n→OwnSet Ce (C2.μ i).b ((C2.μ i).o+j)∨C1.w.heap.size≤(C2.μ i).b:=by
  intro i ob hi hob hw j hj;obtain⟨ob',h1,h2,h3⟩:=got i ob hi hob;rw[h3]at hj ⊢;rw[h2,own_ren]at hw;have:=hI'.own _ ob' h1 hw j hj;simp only[hCew]at this;exact this
 have ownLocB:∀(i:Id) x,i.1∈ids→C2.ρ i=some (.blk x)→OwnBlk Ce (C2.μ i).b∨C1.w.heap.size≤(C2.μ i).b:=by
  intro i x hi hob;obtain⟨ob',h1,h2,h3⟩:=got i _ hi hob;rw[h3];obtain⟨x',rfl⟩:=zse7 h2.symm;have:=hI'.bown _ x' h1;simp only[hCew]at this;exact this
 refine⟨⟨fun i ob hob=>?_,fun i1 i2 o1 o2 ho1 ho2 hw1 hw2 hne j1 j2 hj1 hj2=>?_,fun i ob hob hw j hj=>?_,fun i1 i2 x1 x2 hx1 hx2 hne=>?_,fun i x hx=>?_,?_,fun b x v hv=>hI'.Fw b x v hv,fun b x v hv=>hgrow.F _ _ _ (hI.Fsub _ _ _ hv),fun b x v hv=>?_⟩,hgrow,hextB⟩
 ·by_cases hi:i.1∈ids
  ·obtain⟨ob',h1,h2,h3⟩:=got i ob hi hob;rw[h2,h3]
   exact (hI'.objs _ ob' h1).ren hextB rfl rfl (fun i' hi'=>by
    obtain⟨o'',h5⟩:=(hI'.objs _ ob' h1).live i' hi';obtain⟨e1,e2⟩:=look' _ _ h5;exact⟨by rw[e1],e2⟩)
  ·obtain⟨q1,q2⟩:=other i hi;rw[q1]at hob;rw[q2];exact (hI.objs i ob hob).keep hgrow hkept hFnew (fun hw=>notOwn i ob hi hob hw) (fun x e=>by subst e;exact notOwnB i x hi hob)
 ·by_cases h1:i1.1∈ids
  ·by_cases h2:i2.1∈ids
   ·obtain⟨a1,b1,c1,d1⟩:=got i1 o1 h1 ho1;obtain⟨a2,b2,c2,d2⟩:=got i2 o2 h2 ho2;rw[d1]at hj1 ⊢;rw[d2]at hj2 ⊢;rw[c1,own_ren]at hw1;rw[c2,own_ren]at hw2;refine hI'.disj _ _ a1 a2 b1 b2 hw1 hw2 (fun e=>hne ?_) j1 j2 hj1 hj2;have q1:=congrArg (fun z:Id=>zdb7 order site z.1) e;have q2:=congrArg (fun z:Id=>z.2) e;simp only at q1 q2;rw[hfrom i1.1 h1,hfrom i2.1 h2]at q1;exact Prod.ext q1 q2
   ·obtain⟨q1,q2⟩:=other i2 h2;rw[q1]at ho2;rw[q2]at hj2 ⊢;intro ⟨e1,e2⟩;rcases ownLoc i1 o1 h1 ho1 hw1 j1 hj1 with h|h
    ·rw[e1,e2]at h;exact notOwn i2 o2 h2 ho2 hw2 j2 hj2 h
    ·obtain⟨⟨v,hv⟩,_⟩:=(hI.objs i2 o2 ho2).ownOK hw2 j2 hj2;have:=World.block_lt_of_cell? _ _ hv;simp only at this;omega
  ·obtain⟨q1,q2⟩:=other i1 h1;rw[q1]at ho1;rw[q2]at hj1 ⊢;by_cases h2:i2.1∈ids
   ·intro ⟨e1,e2⟩;rcases ownLoc i2 o2 h2 ho2 hw2 j2 hj2 with h|h
    ·rw[←e1,←e2]at h;exact notOwn i1 o1 h1 ho1 hw1 j1 hj1 h
    ·obtain⟨⟨v,hv⟩,_⟩:=(hI.objs i1 o1 ho1).ownOK hw1 j1 hj1;have:=World.block_lt_of_cell? _ _ hv;simp only at this;omega
   ·obtain⟨q3,q4⟩:=other i2 h2;rw[q3]at ho2;rw[q4]at hj2 ⊢;exact hI.disj i1 i2 o1 o2 ho1 ho2 hw1 hw2 hne j1 j2 hj1 hj2
 ·by_cases hi:i.1∈ids
  ·rcases ownLoc i ob hi hob hw j hj with h|h
   ·exact ownB _ _ h
   ·exact .inr (Nat.le_trans hI.kept.size h)
  ·obtain⟨q1,q2⟩:=other i hi;rw[q1]at hob;rw[q2]at hj ⊢;exact hI.own i ob hob hw j hj
 ·by_cases h1:i1.1∈ids
  ·by_cases h2:i2.1∈ids
   ·obtain⟨a1,b1,c1,d1⟩:=got i1 _ h1 hx1;obtain⟨a2,b2,c2,d2⟩:=got i2 _ h2 hx2;rw[d1,d2];obtain⟨y1,rfl⟩:=zse7 c1.symm;obtain⟨y2,rfl⟩:=zse7 c2.symm;refine hI'.bdisj _ _ y1 y2 b1 b2 (fun e=>hne ?_);have q1:=congrArg (fun z:Id=>zdb7 order site z.1) e;have q2:=congrArg (fun z:Id=>z.2) e;simp only at q1 q2;rw[hfrom i1.1 h1,hfrom i2.1 h2]at q1;exact Prod.ext q1 q2
   ·obtain⟨q1,q2⟩:=other i2 h2;rw[q1]at hx2;rw[q2];intro e;rcases ownLocB i1 x1 h1 hx1 with h|h
    ·rw[e]at h;exact notOwnB i2 x2 h2 hx2 h
    ·have:=blkLt i2 x2 hx2;omega
  ·obtain⟨q1,q2⟩:=other i1 h1;rw[q1]at hx1;rw[q2];by_cases h2:i2.1∈ids
   ·intro e;rcases ownLocB i2 x2 h2 hx2 with h|h
    ·rw[←e]at h;exact notOwnB i1 x1 h1 hx1 h
    ·have:=blkLt i1 x1 hx1;omega
   ·obtain⟨q3,q4⟩:=other i2 h2;rw[q3]at hx2;rw[q4];exact hI.bdisj i1 i2 x1 x2 hx1 hx2 hne
 ·by_cases hi:i.1∈ids
  ·rcases ownLocB i x hi hx with h|h
   ·obtain⟨i',x',h3,h4,h5⟩:=hown0B _ h;rw[h5];exact hI.bown i' x' h4
   ·exact .inr (Nat.le_trans hI.kept.size h)
  ·obtain⟨q1,q2⟩:=other i hi;rw[q1]at hx;rw[q2];exact hI.bown i x hx
 ·refine hI.kept.trans hkept (fun _ _ _ h=>h) (fun b x hb h=>?_) (fun _ _ h=>h) (fun b hb h=>?_) fun b hb hM=>(hI.kept.blk b hb hM).1
  ·rcases ownB b x h with h|h
   ·exact h
   ·omega
  ·obtain⟨i',x',h3,h4,h5⟩:=hown0B _ h;rcases hI.bown i' x' h4 with h6|h6
   ·rw[h5];exact h6
   ·omega
 ·rcases hFnew b x v hv with h|h|h
  ·exact hI.Fnew _ _ _ h
  ·exact .inr (.inr (Nat.le_trans hI.kept.size h))
  ·exact .inr (ownB _ _ h)
theorem map_fst_zipIdx (axs:List AX) (bs:Nat→Bool):((axs.zipIdx.map fun p=>(p.1,bs p.2)).map fun p=>p.1)=axs:=by
 rw[List.map_map];have:((fun p:AX×Bool=>p.1)∘fun p:AX×Nat=>(p.1,bs p.2))=Prod.fst:=rfl;rw[this,List.zipIdx_map_fst]
theorem callE_core {K:Orc} (hI:Inv B C) (hρ:C.ρ=flat T) (hG:GlobOK C.F) {f:FuncId} {args:List (AVal×Bool)} {vals:List Value} {sc:Bool} {site:Nat} {v:AVal} {us:List (RId×TObj)}
  (hrl:RepL C (args.map (·.1)) vals) (h:callE K site f args sc T=some (v,us)):
  ∃(Cc:Ctx) (vs:List AVal) (os:List TObj) (rv:AVal) (os':List TObj),Cc.w=C.w∧Cc.ρ=flat (zpa7 os)∧GlobOK Cc.F∧Inv (baseOf Cc) Cc∧RepL Cc vs vals∧K f vs os=some (rv,os')∧
   ∀e w',PostOK Cc os rv os' e w'→∃val,e=.returned val∧OwesT B C T v us val w':=by
 unfold callE at h;split at h
 ·cases h
 ·rename_i vs us0 hvs;obtain⟨C1,k1,k3,k4,k5,k6⟩:=argsT_ok hI hρ hvs;have hvr:=k6 _ hrl;split at h
  ·cases h
  ·rename_i order hcol;obtain⟨r1,r2,r3,r4,_⟩:=ztd7 (updT T us0) 64 _ [] order hcol (by simp) (by simp);split at h
   ·cases h
   ·rename_i os hos;obtain⟨g1,g2⟩:=zef7 hos;obtain⟨hext,hinv⟩:=callee_inv k4 k3 r1 r4 g1 g2
    have hargr:RepL (zoa7 C1 order (os.map (TObj.tren (toPos order)))) (AVal.trenL (toPos order) vs) vals:=
     RepL.ext hext vs _ (fun i hi=>r3 _ (List.mem_map.2 ⟨i,hi,rfl⟩)) hvr
    split at h
    ·cases h
    ·rename_i rv os' hK;have hw1:(zoa7 C1 order (os.map (TObj.tren (toPos order)))).w=C.w:=k1;refine⟨zoa7 C1 order (os.map (TObj.tren (toPos order))),_,_,rv,os',hw1,rfl,hG.mono k5.F,hinv,hargr,hK,fun e w' ⟨val,C',h1,h2,h3,h4,h5,h6⟩=>⟨val,h1,?_⟩⟩;split at h
     ·rename_i hsc;simp only[Bool.and_eq_true,List.isEmpty_iff]at hsc;have hord:=hsc.2;subst hord;split at h
      ·rename_i hh;simp only[Bool.and_eq_true,List.isEmpty_iff]at hh;simp only[Option.some.injEq,Prod.mk.injEq]at h;obtain⟨rfl,rfl⟩:=h;have hk0:=h4.kept;simp only[hw1]at hk0;have hos:os=[]:=List.eq_nil_of_length_eq_zero g1
       have hk:=hk0.kept (fun i _ hM=>by
        obtain⟨id,x,q1,_⟩:=hM;subst hos;simp[zoa7,flat,zpa7]at q1)
       have hempty:∀b x,¬OwnSet (zoa7 C1 [] (os.map (TObj.tren (toPos [])))) b x:=by
        rintro b x ⟨id,ob,q1,_⟩;have:os=[]:=List.eq_nil_of_length_eq_zero g1;subst this;simp[zoa7,flat,zpa7]at q1
       obtain⟨i1,i2⟩:=hI.plain (C':={ C with w:=C'.w }) (hk.mono fun b x _ hx=>hempty b x hx) (fun _ _ _ h=>h) (fun _ _ _ h=>.inl h) (fun b x v hv e=>by simp only at hv;rw[e]at hv;cases hv) rfl rfl;exact⟨{ C with w:=C'.w },h2,hρ,i1,i2,scal_rep hh.2 h5⟩
      ·cases h
     ·split at h
      ·cases h
      ·rename_i hlen;split at h
       ·cases h
       ·rename_i hfr;simp only[Option.some.injEq,Prod.mk.injEq]at h;obtain⟨rfl,rfl⟩:=h
        have hfresh:∀j,j<os'.length-order.length→updT T us0 (site+1,j)=none:=by
         intro j hj;cases e:updT T us0 (site+1,j) with
         |none=>rfl
         |some ob=>
          exfalso;apply hfr;rw[List.any_eq_true];exact⟨j,by simpa using hj,by simp[e]⟩
        obtain⟨a1,a2,a3⟩:=after_inv (site:=site) k4 k3 r1 r4 g1 rfl hext g2 (by omega) hfresh h3 h4 (by simpa using h6)
        obtain⟨n1,n2,n3,n4⟩:=ids_spec (site:=site) (n:=os'.length) r1 (by omega) (fun j hj hm=>by
         obtain⟨o',q,_⟩:=r4 _ hm;rw[hfresh j hj]at q;cases q)
        refine⟨_,?_,?_,a1,k5.trans a2,?_⟩
        ·exact h2
        ·rw[zob7];simp only[afterCtx]
         congr 1
         funext i;rw[updT_zip n1 (by simp)]
        ·refine RepA.ext a3 rv val (fun i hi=>?_) h5;obtain⟨ob,hob⟩:=RepA.live rv val h5 i hi;rw[h3]at hob;simp only[flat,zpa7]at hob;split at hob
         ·rename_i o' he;split at he
          ·rename_i h0;exact⟨h0,(List.getElem?_eq_some_iff.1 he).1⟩
          ·cases he
         ·cases hob
theorem callE_ok {K:Orc} (hS:zyd7 P K) (hI:Inv B C) (hρ:C.ρ=flat T) (hG:GlobOK C.F) {f:FuncId} {args:List (AVal×Bool)} {vals:Array Value} {sc:Bool} {site:Nat} {v:AVal} {us:List (RId×TObj)}
  (hen:f=YID→zkb7 P f=true) (hrun:zkb7 P f=true→(execOp a.eval o).run P C.w=.ok (.enter f vals) C.w) (hrl:RepL C (args.map (·.1)) vals.toList) (h:callE K site f args sc T=some (v,us)):Does P o a C.w (OwesT B C T v us):=by
 obtain⟨Cc,vs,os,rv,os',c1,c2,c3,c4,c5,c6,c7⟩:=callE_core hI hρ hG hrl h;rcases hS _ _ _ _ _ c6 with⟨_,he,hc⟩|⟨he,he',_⟩
 ·refine .inr (.inr (.inl ⟨f,_,hrun he,?_⟩));have:=hc Cc vals c2 c3 c4 c5;rw[c1]at this;exact this.mono c7
 ·rw[hen he]at he';cases he'
theorem yieldE_ok {K:Orc} (hS:zyd7 P K) (hI:Inv B C) (hρ:C.ρ=flat T) (hG:GlobOK C.F) {args:List (AVal×Bool)} {vals:Array Value} {l:Nat} {sc:Bool} {site:Nat} {v:AVal} {us:List (RId×TObj)}
  (hrun:(execOp a.eval o).run P C.w=(Instr.yield l vals).run P C.w) (hrl:RepL C (args.map (·.1)) (vals.push (.func (.yield l) #[] #[])).toList) (h:callE K site YID args sc T=some (v,us)):Does P o a C.w (OwesT B C T v us):=by
 obtain⟨Cc,vs,os,rv,os',c1,c2,c3,c4,c5,c6,c7⟩:=callE_core hI hρ hG hrl h;rcases hS _ _ _ _ _ c6 with⟨he,_⟩|⟨_,_,hy⟩
 ·exact absurd rfl he
 ·obtain⟨f,tmps,asg,bd,q1,q2⟩:=hy Cc vals l c2 c3 c4 c5;rw[c1]at q1 q2;exact .inr (.inr (.inr ⟨l,f,tmps,asg,bd,by rw[hrun,q1],q2.mono c7⟩))
theorem run_enter {f:FuncId} {args:Array Value} (hen:zkb7 P f=true) (w:World):(callFunc f args).run P w=.ok (.enter f args) w:=by
 unfold zkb7 at hen;cases hfn:P.funcs[f]? with
 |none=>simp[hfn]at hen
 |some fn=>
  rw[hfn]at hen;simp only[bne_iff_ne,Bool.and_eq_true,ne_eq]at hen;have hb:fn.body.isNone=false:=by cases hb:fn.body<;>simp_all
  have hname:(fn.name == "runtime.NumGoroutine")=false:=by simpa using hen.1
  simp only[callFunc,Sem.run_bind,run_program,hfn,hname,hb,Bool.false_eq_true,if_false,Sem.run_pure,Result.andThen_ok]
theorem cOp_call {m:Mk} {f:FuncId} {args:List (AX×Bool)} {sc:Bool} (hc:cOp P m o=some (.call f args sc)):
  ∃c axs,o.op=.call c∧c.callee=.value (.func f)∧cXs c.args=some axs∧args.map (·.1)=axs∧zkb7 P f=true:=by
 unfold cOp at hc;split at hc
 all_goals (try (repeat' split at hc))<;>(try (simp at hc;done))
 all_goals (try (obtain⟨z,hz,he⟩:=zda7 hc;simp at he;done))
 rename_i _ c hop _ _ f' axs h1 h2 _ fn _ _ hen;simp only[Option.some.injEq,AK.call.injEq]at hc;obtain⟨rfl,rfl,rfl⟩:=hc;exact⟨c,axs,hop,h1,h2,map_fst_zipIdx axs _,hen⟩
theorem cOp_callV {m:Mk} {ax:AX} {args:List (AX×Bool)} {sc:Bool} (hc:cOp P m o=some (.callV ax args sc)):
  ∃c x axs,o.op=.call c∧c.callee=.value x∧cX x=some ax∧cXs c.args=some axs∧args.map (·.1)=axs:=by
 unfold cOp at hc;split at hc
 all_goals (try (repeat' split at hc))<;>(try (simp at hc;done))
 all_goals (try (obtain⟨z,hz,he⟩:=zda7 hc;simp at he;done))
 rename_i _ c hop _ _ x axs _ h1 h2;obtain⟨z,hz,he⟩:=zda7 hc;simp only[AK.callV.injEq]at he;obtain⟨rfl,rfl,rfl⟩:=he;exact⟨c,x,axs,hop,h1,hz,h2,map_fst_zipIdx axs _⟩
theorem op_all {K:Orc} (hS:zyd7 P K) (hI:Inv B C) (hρ:C.ρ=flat T) (hE:RepE C g a) {m:Mk} {k:AK} {site:Nat} {v:AVal} {us:List (RId×TObj)} (hc:cOp P m o=some k) (h:opT K site k g T=some (v,us)):Does P o a C.w (OwesT B C T v us):=by
 by_cases hk:∃f args sc,k=.call f args sc
 ·obtain⟨f,args,sc,rfl⟩:=hk;obtain⟨c,axs,h1,h2,h3,h4,h5⟩:=cOp_call hc;refine callE_ok (f:=f) (vals:=c.args.map a.eval) hS hI hρ hE.glob (fun _=>h5) (fun _=>?_) ?_ h
  ·simp only[execOp,h1,resolve,h2,Act.eval,Sem.run_bind,Deferred.ofValue,Sem.run_pure,Result.andThen_ok,invoke,Array.append_empty,Array.empty_append,run_enter h5]
  ·have e:((args.map fun p=>(evX g p.1,p.2)).map (·.1))=axs.map (evX g):=by
    rw[←h4,List.map_map,List.map_map];rfl
   rw[e];have:=cXs_rep (C:=C) hE h3;simpa using this
 ·by_cases hk2:∃x args sc,k=.callV x args sc
  ·obtain⟨x,args,sc,rfl⟩:=hk2;obtain⟨c,xo,axs,h1,h2,h3,h4,h5⟩:=cOp_callV hc
   have e:((args.map fun p=>(evX g p.1,p.2)).map (·.1))=axs.map (evX g):=by
    rw[←h5,List.map_map,List.map_map];rfl
   have hargs:=cXs_rep (C:=C) hE h4;have hx:=zea7 hE h3;simp only[opT]at h;split at h
   ·rename_i f caps hf;rw[hf]at hx;simp only[RepA]at hx;obtain⟨cs,hx1,hx2⟩:=hx
    have e2:((caps.map fun v=>(v,true)).map (·.1))=caps:=by
     rw[List.map_map];exact List.map_id _
    by_cases hbig:BIGF≤f
    ·rw[if_pos hbig]at h hx1;by_cases hne:f-BIGF=YID
     ·rw[if_pos hne]at h;cases h
     ·rw[if_neg hne]at h;refine callE_ok (f:=f-BIGF) (vals:=cs++c.args.map a.eval) hS hI hρ hE.glob (fun e=>absurd e hne) (fun henf=>?_) ?_ h
      ·simp only[execOp,h1,resolve,h2,hx1,Sem.run_bind,Deferred.ofValue,Sem.run_pure,Result.andThen_ok,invoke,Array.append_empty,run_enter henf]
      ·rw[List.map_append,e,e2,Array.toList_append];exact RepL.append hx2 (by simpa using hargs)
    ·rw[if_neg hbig]at h hx1;by_cases hne:f=YID
     ·rw[if_pos hne]at h;cases h
     ·rw[if_neg hne]at h;refine callE_ok (f:=f) (vals:=c.args.map a.eval++cs) hS hI hρ hE.glob (fun e=>absurd e hne) (fun henf=>?_) ?_ h
      ·simp only[execOp,h1,resolve,h2,hx1,Sem.run_bind,Deferred.ofValue,Sem.run_pure,Result.andThen_ok,invoke,Array.empty_append,run_enter henf]
      ·rw[List.map_append,e,e2,Array.toList_append];exact RepL.append (by simpa using hargs) hx2
   ·rename_i id hf;rw[hf]at hx;have hxr:=hx;simp only[RepA,if_true]at hx;obtain⟨l,hx1,hx2⟩:=hx;refine yieldE_ok (l:=l) (vals:=c.args.map a.eval) hS hI hρ hE.glob ?_ ?_ h
    ·simp only[execOp,h1,resolve,h2,hx2,Sem.run_bind,Deferred.ofValue,Sem.run_pure,Result.andThen_ok,invoke,Array.empty_append]
    ·rw[List.map_append,e,Array.toList_push];refine RepL.append (by simpa using hargs) ?_;simp only[List.map_cons,List.map_nil,RepL];rw[hx2]at hxr;exact⟨_,_,rfl,hxr,rfl⟩
   ·cases h
  ·exact opT_plain hI hρ hE ⟨fun f args sc e=>hk ⟨f,args,sc,e⟩,fun f args sc e=>hk2 ⟨f,args,sc,e⟩⟩ hc h
end
end Go.Am

namespace Go.Am
variable [Glob]
section
variable {g g':Nat→AVal} {ρ ρ':Look}
theorem zba7:∀{x:AX},(∀t∈x.slots,g' t=g t)→evX g' x=evX g x
 |.t n,h=>h n (by simp[AX.slots])
 |.c v,_=>rfl
theorem evXs_congr:∀{xs:List AX},(∀t∈AX.slotsL xs,g' t=g t)→xs.map (evX g')=xs.map (evX g)
 |[],_=>rfl
 |x::r,h=>by
  simp only[AX.slotsL,List.mem_append,or_imp,forall_and]at h;rw[List.map_cons,List.map_cons,zba7 h.1,evXs_congr h.2]
theorem pairs_congr {args:List (AX×Bool)} (h:∀t∈AX.slotsL (args.map (·.1)),g' t=g t):(args.map fun p=>(evX g' p.1,p.2))=(args.map fun p=>(evX g p.1,p.2)):=by
 induction args with
 |nil=>rfl
 |cons p r ih=>
  simp only[List.map_cons,AX.slotsL,List.mem_append,or_imp,forall_and]at h;rw[List.map_cons,List.map_cons,ih h.2,zba7 h.1]
theorem parts_congr {ps:List (Nat×Nat×AX)} (h:∀t∈AX.slotsL (ps.map fun p=>p.2.2),g' t=g t):(ps.map fun p=>(p.1,p.2.1,evX g' p.2.2))=(ps.map fun p=>(p.1,p.2.1,evX g p.2.2)):=by
 induction ps with
 |nil=>rfl
 |cons p r ih=>
  simp only[List.map_cons,AX.slotsL,List.mem_append,or_imp,forall_and]at h;rw[List.map_cons,List.map_cons,ih h.2,zba7 h.1]
theorem opE_slots (site:Nat) {k:AK} (ρ:Look) (h:∀t∈k.slots,g' t=g t):opE site k g' ρ=opE site k g ρ:=by
 cases k with
 |mv x=>simp only[opE,zba7 h]
 |mvNil md sz=>rfl
 |pick c a b=>
  simp only[AK.slots,List.mem_append,or_imp,forall_and]at h;simp only[opE,zba7 h.1.1,zba7 h.1.2,zba7 h.2]
 |nilChk x=>simp only[opE,zba7 h]
 |bin bk op x y=>
  simp only[AK.slots,List.mem_append,or_imp,forall_and]at h;simp only[opE,zba7 h.1,zba7 h.2]
 |un op x=>simp only[opE,zba7 h]
 |cvt k x=>simp only[opE,zba7 h]
 |b2s x=>simp only[opE,zba7 h]
 |fAddr off x=>simp only[opE,zba7 h]
 |fld off n agg x=>simp only[opE,zba7 h]
 |iAddr sz x i=>
  simp only[AK.slots,List.mem_append,or_imp,forall_and]at h;simp only[opE,zba7 h.1,zba7 h.2]
 |iAddrA n sz x i=>
  simp only[AK.slots,List.mem_append,or_imp,forall_and]at h;simp only[opE,zba7 h.1,zba7 h.2]
 |idx n sz agg x i=>
  simp only[AK.slots,List.mem_append,or_imp,forall_and]at h;simp only[opE,zba7 h.1,zba7 h.2]
 |idxS x i=>
  simp only[AK.slots,List.mem_append,or_imp,forall_and]at h;simp only[opE,zba7 h.1,zba7 h.2]
 |ext i x=>simp only[opE,zba7 h]
 |len str x=>simp only[opE,zba7 h]
 |mm isMax x r=>
  simp only[AK.slots,List.mem_append,or_imp,forall_and]at h;simp only[opE,zba7 h.1,evXs_congr h.2]
 |bld zero parts=>simp only[opE,parts_congr h]
 |bldS md sz xs=>simp only[opE,evXs_congr h]
 |box n x=>simp only[opE,zba7 h]
 |alc zero=>rfl
 |ld n agg a=>simp only[opE,zba7 h]
 |st mv n a v=>
  simp only[AK.slots,List.mem_append,or_imp,forall_and]at h;simp only[opE,zba7 h.1,zba7 h.2]
 |mk md sz bytes zero l c=>
  simp only[AK.slots,List.mem_append,or_imp,forall_and]at h;simp only[opE,zba7 h.1,zba7 h.2]
 |slc str sz x lo hi=>
  simp only[AK.slots,List.mem_append,or_imp,forall_and]at h;obtain⟨⟨h1,h2⟩,h3⟩:=h;cases lo with
  |none=>
   cases hi with
   |none=>simp only[opE,zba7 h1]
   |some y=>
    have h3':∀t∈y.slots,g' t=g t:=by simpa[AX.slotsL]using h3
    simp only[opE,zba7 h1,zba7 h3']
  |some x'=>
   have h2':∀t∈x'.slots,g' t=g t:=by simpa[AX.slotsL]using h2
   cases hi with
   |none=>simp only[opE,zba7 h1,zba7 h2']
   |some y=>
    have h3':∀t∈y.slots,g' t=g t:=by simpa[AX.slotsL]using h3
    simp only[opE,zba7 h1,zba7 h2',zba7 h3']
 |app md sz bytes x y=>
  simp only[AK.slots,List.mem_append,or_imp,forall_and]at h;simp only[opE,zba7 h.1,zba7 h.2]
 |cpy sz x y=>
  simp only[AK.slots,List.mem_append,or_imp,forall_and]at h;simp only[opE,zba7 h.1,zba7 h.2]
 |clr zero x=>simp only[opE,zba7 h]
 |mkf f caps=>simp only[opE,evXs_congr h]
 |slc0 x l h' m=>
  simp only[AK.slots,List.mem_append,or_imp,forall_and]at h;simp only[opE,zba7 h.1.1.1,zba7 h.1.1.2,zba7 h.1.2,zba7 h.2]
 |slc3 sz x l h' m=>
  simp only[AK.slots,List.mem_append,or_imp,forall_and]at h;simp only[opE,zba7 h.1.1.1,zba7 h.1.1.2,zba7 h.1.2,zba7 h.2]
 |capK x=>simp only[opE,zba7 h]
 |appZ sz bytes zero x y=>
  simp only[AK.slots,List.mem_append,or_imp,forall_and]at h;simp only[opE,zba7 h.1,zba7 h.2]
 |dead=>rfl
 |mkMap=>rfl
 |lkp ag sh zero ok m k=>
  simp only[AK.slots,List.mem_append,or_imp,forall_and]at h;simp only[opE,zba7 h.1,zba7 h.2]
 |mup ag sh m k v=>
  simp only[AK.slots,List.mem_append,or_imp,forall_and]at h;simp only[opE,zba7 h.1.1,zba7 h.1.2,zba7 h.2]
 |lenM m=>simp only[opE,zba7 h]
 |call f args scalar=>rfl
 |callV x args scalar=>rfl
theorem elemsOf_congr {sz:Nat} {v:AVal} (h:∀i∈v.ids,ρ' i=ρ i):elemsOf ρ' sz v=elemsOf ρ sz v:=by
 cases v with
 |rsl id ver sz' off len=>simp only[elemsOf,h id (by simp[AVal.ids])]
 |dat d=>cases d<;>rfl
 |_=>rfl
theorem rsrcOf_congr {sz:Nat} {v:AVal} (h:∀i∈v.ids,ρ' i=ρ i):rsrcOf ρ' sz v=rsrcOf ρ sz v:=by
 cases v with
 |rsl id ver sz' off len=>simp only[rsrcOf,h id (by simp[AVal.ids])]
 |_=>rfl
theorem srcOf_congr {sz:Nat} {v:AVal} (h:∀i∈v.ids,ρ' i=ρ i):srcOf ρ' sz v=srcOf ρ sz v:=by
 cases v with
 |dat d=>cases d<;>rfl
 |rsl id ver sz' off len=>
  simp only[srcOf];exact elemsOf_congr h
 |_=>rfl
theorem zwe7 {v:AVal} (h:∀i∈v.ids,ρ' i=ρ i):zpb7 ρ' v=zpb7 ρ v:=by
 cases v with
 |rsl id ver sz' off len=>simp only[zpb7,h id (by simp[AVal.ids])]
 |_=>rfl
theorem zjf7:∀{l:List AVal},(∀i∈AVal.idsL l,ρ' i=ρ i)→zqa7 ρ' l=zqa7 ρ l
 |[],_=>rfl
 |v::r,h=>by
  simp only[AVal.idsL,List.mem_append,or_imp,forall_and]at h;simp only[zqa7,zwe7 h.1,zjf7 h.2]
theorem dec_congr {v:AVal} (h:∀i∈v.ids,ρ' i=ρ i):dec ρ' v=dec ρ v:=by
 cases v with
 |agg l=>simp only[dec,zjf7 (l:=l) h]
 |rsl id ver sz off len=>simp only[dec];exact zwe7 h
 |_=>rfl
theorem zrf7:∀{l:List AVal},(∀i∈AVal.idsL l,ρ' i=ρ i)→zsf7 ρ' l=zsf7 ρ l
 |[],_=>rfl
 |v::r,h=>by
  simp only[AVal.idsL,List.mem_append,or_imp,forall_and]at h;simp only[zsf7,dec_congr h.1,zrf7 h.2]
theorem decLeaf_fs {v:AVal} {d:Dat} {fs:List Id} (h:zpb7 ρ v=some (d,fs)):∀i∈fs,i∈v.ids:=by
 cases v with
 |rsl id ver sz off len=>
  simp only[zpb7]at h;split at h
  ·split at h
   ·simp only[Option.some.injEq,Prod.mk.injEq]at h;obtain⟨rfl,rfl⟩:=h;intro i hi;simpa[AVal.ids]using hi
   ·cases h
  ·cases h
 |dat d'=>simp[zpb7]at h;simp[h.2]
 |nils=>simp[zpb7]at h;simp[h.2]
 |emp t=>simp[zpb7]at h;simp[h.2]
 |cap0=>simp[zpb7]at h;simp[h.2]
 |fsl l=>simp[zpb7]at h;simp[h.2]
 |_=>simp[zpb7]at h
theorem decLeaves_fs:∀{l:List AVal} {ds:List Dat} {fs:List Id},zqa7 ρ l=some (ds,fs)→∀i∈fs,i∈AVal.idsL l
 |[],ds,fs,h=>by simp[zqa7]at h;simp[h.2]
 |v::r,ds,fs,h=>by
  simp only[zqa7]at h;split at h
  ·rename_i d f ds' fs' h1 h2;split at h
   ·cases h
   ·simp only[Option.some.injEq,Prod.mk.injEq]at h;obtain⟨rfl,rfl⟩:=h;intro i hi;simp only[List.mem_append,AVal.idsL]at hi ⊢;exact orMap hi (decLeaf_fs h1 i) (decLeaves_fs h2 i)
  ·cases h
theorem dec_fs {v:AVal} {d:Dat} {fs:List Id} (h:dec ρ v=some (d,fs)):∀i∈fs,i∈v.ids:=by
 cases v with
 |agg l=>
  simp only[dec]at h;split at h
  ·rename_i ds fs' h1;simp only[Option.some.injEq,Prod.mk.injEq]at h;obtain⟨rfl,rfl⟩:=h;exact decLeaves_fs h1
  ·cases h
 |_=>simp only[dec]at h;exact decLeaf_fs h
theorem decAll_fs:∀{l:List AVal} {ds:List Dat} {fs:List Id},zsf7 ρ l=some (ds,fs)→∀i∈fs,i∈AVal.idsL l
 |[],ds,fs,h=>by simp[zsf7]at h;simp[h.2]
 |v::r,ds,fs,h=>by
  simp only[zsf7]at h;split at h
  ·rename_i d f ds' fs' h1 h2;simp only[Option.some.injEq,Prod.mk.injEq]at h;obtain⟨rfl,rfl⟩:=h;intro i hi;simp only[List.mem_append,AVal.idsL]at hi ⊢;exact orMap hi (dec_fs h1 i) (decAll_fs h2 i)
  ·cases h
theorem zff7:∀{fs:List Id},(∀i∈fs,ρ' i=ρ i)→frz ρ' fs=frz ρ fs
 |[],_=>rfl
 |id::r,h=>by
  simp only[frz,h id (by simp),zff7 (fs:=r) (fun i hi=>h i (by simp[hi]))]
theorem loadE_congr {n:Nat} {agg:Bool} {v:AVal} (h:∀i∈v.ids,ρ' i=ρ i):loadE ρ' n agg v=loadE ρ n agg v:=by
 cases v with
 |ref id off=>simp only[loadE,h id (by simp[AVal.ids])]
 |eref id ver i off=>simp only[loadE,h id (by simp[AVal.ids])]
 |_=>rfl
theorem storeE_congr {n:Nat} {a v:AVal} (h:∀i∈a.ids,ρ' i=ρ i) (h':∀i∈v.ids,ρ' i=ρ i):storeE ρ' n a v=storeE ρ n a v:=by
 cases a with
 |ref id off=>simp only[storeE,h id (by simp[AVal.ids])]
 |eref id ver i off=>
  simp only[storeE,h id (by simp[AVal.ids]),dec_congr h'];cases hd:dec ρ v with
  |none=>rfl
  |some p=>
   obtain⟨d,fs⟩:=p;have e:=zff7 (fs:=fs) (fun i hi=>h' i (dec_fs hd i hi));cases ρ id with
   |none=>rfl
   |some o=>
    cases o with
    |box cs=>rfl
    |rarr sz ver' es=>rfl
    |blk x=>rfl
    |arr sz ver' fz es=>
     cases fz with
     |true=>rfl
     |false=>
      cases he:es[i]? with
      |none=>simp only[he]
      |some x=>simp only[he,e]
 |_=>rfl
theorem lkpE_congr {ag:Bool} {sh:List Sh} {zero:List AVal} {ok:Bool} {m k:AVal} (h:∀i∈m.ids,ρ' i=ρ i):lkpE ρ' ag sh zero ok m k=lkpE ρ ag sh zero ok m k:=by
 cases m with
 |bref y id=>
  cases y with
  |true=>rfl
  |false=>cases hk:keyE ag sh k<;>cases hz:zrc7 zero<;>simp only[lkpE,hk,hz,h id (by simp[AVal.ids])]
 |_=>rfl
theorem lenME_congr {m:AVal} (h:∀i∈m.ids,ρ' i=ρ i):lenME ρ' m=lenME ρ m:=by
 cases m with
 |bref y id=>cases y<;>simp only[lenME,h id (by simp[AVal.ids])]
 |_=>rfl
theorem mupE_congr {ag:Bool} {sh:List Sh} {m k v:AVal} (h:∀i∈m.ids,ρ' i=ρ i) (h':∀i∈v.ids,ρ' i=ρ i):mupE ρ' ag sh m k v=mupE ρ ag sh m k v:=by
 cases m with
 |bref y id=>
  cases y with
  |true=>rfl
  |false=>
   cases hk:keyE ag sh k with
   |none=>simp only[mupE,hk]
   |some kd=>
    cases hd:dec ρ v with
    |none=>simp only[mupE,hk,dec_congr h',hd]
    |some p=>
     obtain⟨d,fs⟩:=p;have e:=zff7 (fs:=fs) (fun i hi=>h' i (dec_fs hd i hi));simp only[mupE,hk,dec_congr h',hd,h id (by simp[AVal.ids]),e]
 |_=>rfl
theorem zja7 {i:Id} (h:ρ' i=ρ i):zwa7 ρ' i=zwa7 ρ i:=by simp only[zwa7,h]
end
end Go.Am

namespace Go.Am
variable [Glob]
section
variable {g:Nat→AVal} {ρ ρ':Look}
theorem opE_objs (site:Nat) {k:AK} {out:Out} (h:opE site k g ρ=some out) (hρ:∀i,i∈touch k g∨i∈out.2.map (·.1)→ρ' i=ρ i):opE site k g ρ'=some out:=by
 cases k with
 |mv x=>exact h
 |pick c a b=>exact h
 |nilChk x=>exact h
 |bin bk op x y=>exact h
 |un op x=>exact h
 |cvt k x=>exact h
 |fAddr off x=>exact h
 |fld off n agg x=>exact h
 |iAddr sz x i=>exact h
 |iAddrA n sz x i=>exact h
 |idx n sz agg x i=>exact h
 |idxS x i=>exact h
 |ext i x=>exact h
 |len str x=>exact h
 |mm isMax x r=>exact h
 |bld zero parts=>exact h
 |slc str sz x lo hi=>exact h
 |mvNil md sz=>
  simp only[opE]at h ⊢;split at h
  ·cases h
  ·rename_i nv hnv
   have key:(nid site)∈out.2.map (·.1):=by
    cases md with
    |o=>
     simp only at h;split at h
     ·cases h;simp
     ·cases h
    |r=>
     simp only at h;split at h
     ·cases h;simp
     ·cases h
    |d=>cases h
    |f=>cases h
   rw[zja7 (hρ _ (.inr key)),hnv];exact h
 |b2s x=>
  simp only[opE]at h ⊢;rw[elemsOf_congr fun i hi=>hρ i (.inl hi)];exact h
 |bldS md sz xs=>
  simp only[opE]at h ⊢;have ht:∀i∈AVal.idsL (xs.map (evX g)),ρ' i=ρ i:=fun i hi=>hρ i (.inl hi)
  cases md with
  |r=>exact h
  |d=>
   simp only at h ⊢;rw[zrf7 ht];split at h
   ·rename_i ds fs hd;simp only[zff7 (fs:=fs) fun i hi=>ht i (decAll_fs hd i hi)];exact h
   ·cases h
  |o=>
   simp only at h ⊢;rw[zrf7 ht];split at h
   ·rename_i ds fs hd;split at h
    ·rename_i hw;rw[if_pos hw];split at h
     ·rename_i nv hnv;split at h
      ·rename_i hc
       have key:ρ' (nid site)=ρ (nid site):=by
        refine hρ _ (.inr ?_);simp only[Option.some.injEq]at h;subst h;simp
       rw[zja7 key,hnv];simp only[zff7 (fs:=fs) fun i hi=>ht i (decAll_fs hd i hi)];rw[if_pos hc];exact h
      ·cases h
     ·cases h
    ·cases h
   ·cases h
  |f=>
   simp only at h ⊢;split at h
   ·rename_i h0;rw[if_pos h0];exact h
   ·rename_i h0;rw[if_neg h0];split at h
    ·rename_i nv hnv;split at h
     ·rename_i hc
      have key:ρ' (nid site)=ρ (nid site):=by
       refine hρ _ (.inr ?_);simp only[Option.some.injEq]at h;subst h;simp
      rw[zja7 key,hnv];simp only;rw[if_pos hc];exact h
     ·cases h
    ·cases h
 |box n x=>
  simp only[opE]at h ⊢;split at h
  ·cases h
  ·rename_i hn;split at h
   ·rename_i hc
    have key:ρ' (nid site)=ρ (nid site):=by
     refine hρ _ (.inr ?_);simp only[Option.some.injEq]at h;subst h;simp
    rw[key,hn];simp only;rw[if_pos hc];exact h
   ·cases h
 |alc zero=>
  simp only[opE]at h ⊢;split at h
  ·cases h
  ·rename_i hn
   have key:ρ' (nid site)=ρ (nid site):=by
    refine hρ _ (.inr ?_);simp only[Option.some.injEq]at h;subst h;simp
   rw[key,hn];exact h
 |mkMap=>
  simp only[opE]at h ⊢;split at h
  ·cases h
  ·rename_i hn
   have key:ρ' (nid site)=ρ (nid site):=by
    refine hρ _ (.inr ?_);simp only[Option.some.injEq]at h;subst h;simp
   rw[key,hn];exact h
 |lkp ag sh zero ok m k=>
  simp only[opE]at h ⊢;rw[lkpE_congr fun i hi=>hρ i (.inl hi)];exact h
 |mup ag sh m k v=>
  simp only[opE]at h ⊢;rw[mupE_congr (fun i hi=>hρ i (.inl (List.mem_append.2 (.inl hi)))) (fun i hi=>hρ i (.inl (List.mem_append.2 (.inr hi))))];exact h
 |lenM m=>
  simp only[opE]at h ⊢;rw[lenME_congr fun i hi=>hρ i (.inl hi)];exact h
 |ld n agg a=>
  simp only[opE]at h ⊢;rw[loadE_congr fun i hi=>hρ i (.inl hi)];exact h
 |st mv n a v=>
  simp only[opE]at h ⊢;rw[storeE_congr (fun i hi=>hρ i (.inl (List.mem_append.2 (.inl hi)))) (fun i hi=>hρ i (.inl (List.mem_append.2 (.inr hi))))];exact h
 |mk md sz bytes zero l c=>
  simp only[opE]at h ⊢;split at h
  ·rename_i l' c' hl hc;split at h
   ·rename_i hb
    try simp only[hl,hc]
    rw[if_pos hb];cases md with
    |r=>
     simp only at h ⊢;split at h
     ·rename_i nv hnv;split at h
      ·rename_i hz
       have key:ρ' (nid site)=ρ (nid site):=by
        refine hρ _ (.inr ?_);simp only[Option.some.injEq]at h;subst h;simp
       simp only[zja7 key,hnv];rw[if_pos hz];exact h
      ·cases h
     ·cases h
    |d=>exact h
    |o=>
     simp only at h ⊢;split at h
     ·rename_i z hz
      try simp only[hz]
      split at h
      ·rename_i hw;rw[if_pos hw];split at h
       ·cases h
       ·rename_i nv hnv
        have key:ρ' (nid site)=ρ (nid site):=by
         refine hρ _ (.inr ?_);simp only[Option.some.injEq]at h;subst h;simp
        simp only[zja7 key,hnv];exact h
      ·cases h
     ·cases h
    |f=>
     simp only at h ⊢;split at h
     ·rename_i z hz
      try simp only[hz]
      split at h
      ·rename_i hw;rw[if_pos hw];split at h
       ·cases h
       ·rename_i nv hnv
        have key:ρ' (nid site)=ρ (nid site):=by
         refine hρ _ (.inr ?_);simp only[Option.some.injEq]at h;subst h;simp
        simp only[zja7 key,hnv];exact h
      ·cases h
     ·cases h
   ·cases h
  ·cases h
 |app md sz bytes x y=>
  have hx:∀i∈(evX g x).ids,ρ' i=ρ i:=fun i hi=>hρ i (.inl (List.mem_append.2 (.inl hi)))
  have hy:∀i∈(evX g y).ids,ρ' i=ρ i:=fun i hi=>hρ i (.inl (List.mem_append.2 (.inr hi)))
  simp only[opE]at h ⊢;rw[srcOf_congr hy,rsrcOf_congr hy];split at h
  ·rename_i id ver sz' off len hv
   try simp only[hv]
   rw[hx id (by simp[hv,AVal.ids])];exact h
  ·rename_i hv
   try simp only[hv]
   cases md with
   |r=>
    simp only at h ⊢;split at h
    ·rename_i ds hw
     try simp only[hw]
     split at h
     ·rename_i hd;rw[if_pos hd];exact h
     ·rename_i hd;rw[if_neg hd];split at h
      ·rename_i nv hnv;split at h
       ·rename_i hc
        have key:ρ' (nid site)=ρ (nid site):=by
         refine hρ _ (.inr ?_);simp only[Option.some.injEq]at h;subst h;simp
        simp only[zja7 key,hnv];rw[if_pos hc];exact h
       ·cases h
      ·cases h
    ·cases h
   |d=>
    simp only at h ⊢;split at h
    ·rename_i ds hw
     try simp only[hw]
     split at h
     ·rename_i hd;rw[if_pos hd];exact h
     ·rename_i hd;rw[if_neg hd];split at h
      ·rename_i nv hnv;split at h
       ·rename_i hc
        have key:ρ' (nid site)=ρ (nid site):=by
         refine hρ _ (.inr ?_);simp only[Option.some.injEq]at h;subst h;simp
        simp only[zja7 key,hnv];rw[if_pos hc];exact h
       ·cases h
      ·cases h
    ·cases h
   |o=>
    simp only at h ⊢;split at h
    ·rename_i ds hw
     try simp only[hw]
     split at h
     ·rename_i hd;rw[if_pos hd];exact h
     ·rename_i hd;rw[if_neg hd];split at h
      ·rename_i nv hnv;split at h
       ·rename_i hc
        have key:ρ' (nid site)=ρ (nid site):=by
         refine hρ _ (.inr ?_);simp only[Option.some.injEq]at h;subst h;simp
        simp only[zja7 key,hnv];rw[if_pos hc];exact h
       ·cases h
      ·cases h
    ·cases h
   |f=>
    simp only at h ⊢;split at h
    ·rename_i ds hw
     try simp only[hw]
     split at h
     ·rename_i hd;rw[if_pos hd];exact h
     ·rename_i hd;rw[if_neg hd];split at h
      ·rename_i nv hnv;split at h
       ·rename_i hc
        have key:ρ' (nid site)=ρ (nid site):=by
         refine hρ _ (.inr ?_);simp only[Option.some.injEq]at h;subst h;simp
        simp only[zja7 key,hnv];rw[if_pos hc];exact h
       ·cases h
      ·cases h
    ·cases h
  ·rename_i hv
   try simp only[hv]
   cases md with
   |r=>
    simp only at h ⊢;split at h
    ·rename_i ds hw
     try simp only[hw]
     split at h
     ·rename_i hd;rw[if_pos hd];exact h
     ·rename_i hd;rw[if_neg hd];split at h
      ·rename_i nv hnv;split at h
       ·rename_i hc
        have key:ρ' (nid site)=ρ (nid site):=by
         refine hρ _ (.inr ?_);simp only[Option.some.injEq]at h;subst h;simp
        simp only[zja7 key,hnv];rw[if_pos hc];exact h
       ·cases h
      ·cases h
    ·cases h
   |d=>
    simp only at h ⊢;split at h
    ·rename_i ds hw
     try simp only[hw]
     split at h
     ·rename_i hd;rw[if_pos hd];exact h
     ·rename_i hd;rw[if_neg hd];split at h
      ·rename_i nv hnv;split at h
       ·rename_i hc
        have key:ρ' (nid site)=ρ (nid site):=by
         refine hρ _ (.inr ?_);simp only[Option.some.injEq]at h;subst h;simp
        simp only[zja7 key,hnv];rw[if_pos hc];exact h
       ·cases h
      ·cases h
    ·cases h
   |o=>
    simp only at h ⊢;split at h
    ·rename_i ds hw
     try simp only[hw]
     split at h
     ·rename_i hd;rw[if_pos hd];exact h
     ·rename_i hd;rw[if_neg hd];split at h
      ·rename_i nv hnv;split at h
       ·rename_i hc
        have key:ρ' (nid site)=ρ (nid site):=by
         refine hρ _ (.inr ?_);simp only[Option.some.injEq]at h;subst h;simp
        simp only[zja7 key,hnv];rw[if_pos hc];exact h
       ·cases h
      ·cases h
    ·cases h
   |f=>
    simp only at h ⊢;split at h
    ·rename_i ds hw
     try simp only[hw]
     split at h
     ·rename_i hd;rw[if_pos hd];exact h
     ·rename_i hd;rw[if_neg hd];split at h
      ·rename_i nv hnv;split at h
       ·rename_i hc
        have key:ρ' (nid site)=ρ (nid site):=by
         refine hρ _ (.inr ?_);simp only[Option.some.injEq]at h;subst h;simp
        simp only[zja7 key,hnv];rw[if_pos hc];exact h
       ·cases h
      ·cases h
    ·cases h
  ·rename_i l hv
   try simp only[hv]
   split at h
   ·rename_i ds nv hw hnv;split at h
    ·rename_i hc
     have key:ρ' (nid site)=ρ (nid site):=by
      refine hρ _ (.inr ?_);simp only[Option.some.injEq]at h;subst h;simp
     simp only[hw,zja7 key,hnv];rw[if_pos hc];exact h
    ·cases h
   ·cases h
  ·cases h
 |cpy sz x y=>
  have hx:∀i∈(evX g x).ids,ρ' i=ρ i:=fun i hi=>hρ i (.inl (List.mem_append.2 (.inl hi)))
  have hy:∀i∈(evX g y).ids,ρ' i=ρ i:=fun i hi=>hρ i (.inl (List.mem_append.2 (.inr hi)))
  simp only[opE]at h ⊢;rw[srcOf_congr hy];split at h
  ·rename_i id ver sz' off len ds hv hs
   try simp only[hv,hs]
   rw[hx id (by simp[hv,AVal.ids])];exact h
  ·cases h
 |clr zero x=>
  have hx:∀i∈(evX g x).ids,ρ' i=ρ i:=fun i hi=>hρ i (.inl hi)
  simp only[opE]at h ⊢;split at h
  ·rename_i id ver sz off len z hv hz
   try simp only[hv,hz]
   rw[hx id (by simp[hv,AVal.ids])];exact h
  ·cases h
 |mkf f caps=>exact h
 |slc0 x l h' m=>exact h
 |capK x=>exact h
 |appZ sz bytes zero x y=>
  simp only[opE]at h ⊢;split at h
  ·rename_i hx
   try simp only[hx]
   split at h
   ·rename_i n z h1 h2
    try simp only[h1,h2]
    split at h
    ·rename_i hc;rw[if_pos hc];split at h
     ·rename_i nv hnv
      have key:ρ' (nid site)=ρ (nid site):=by
       refine hρ _ (.inr ?_);simp only[Option.some.injEq]at h;subst h;simp
      rw[zja7 key,hnv];exact h
     ·cases h
    ·cases h
   ·cases h
  ·cases h
 |slc3 sz x l h' m=>
  have hx:∀i∈(evX g x).ids,ρ' i=ρ i:=fun i hi=>hρ i (.inl hi)
  simp only[opE]at h ⊢;split at h
  ·rename_i l1 h1 m1 e1 e2 e3
   try simp only[e1,e2,e3]
   rw[zwe7 hx];split at h
   ·rename_i ds ids hd
    try simp only[hd]
    rw[zff7 (fs:=ids) fun i hi=>hx i (decLeaf_fs hd i hi)];exact h
   ·cases h
  ·cases h
 |dead=>exact h
 |call f args scalar=>exact h
 |callV x args scalar=>exact h
theorem opE_quiet (site:Nat) {k:AK} {out:Out} (h:opE site k g ρ=some out) (hk:k.kind≠2):out.2=[]:=by
 obtain⟨v,upd⟩:=out
 have mp:∀{α:Type} {x:Option α} {f:α→AVal},(x.map fun a=>(f a,([]:List (Id×Obj))))=some (v,upd)→upd=[]:=by
  intro α x f hx;cases x with
  |none=>cases hx
  |some a=>simp only[Option.map_some,Option.some.injEq,Prod.mk.injEq]at hx;exact hx.2.symm
 have sm:∀{u:AVal},some (u,([]:List (Id×Obj)))=some (v,upd)→upd=[]:=by
  intro u hx;simp only[Option.some.injEq,Prod.mk.injEq]at hx;exact hx.2.symm
 cases k with
 |mv x=>exact sm h
 |mvNil md sz=>simp[AK.kind]at hk
 |pick c a b=>
  simp only[opE]at h;split at h
  ·exact sm h
  ·cases h
 |nilChk x=>
  simp only[opE]at h;split at h<;>first|exact sm h|cases h
 |bin bk op x y=>exact mp h
 |un op x=>exact mp h
 |cvt k x=>
  simp only[opE]at h;split at h
  ·exact sm h
  ·cases h
 |b2s x=>
  simp only[opE]at h;split at h
  ·split at h
   ·exact sm h
   ·cases h
  ·cases h
 |fAddr off x=>exact mp h
 |fld off n agg x=>exact mp h
 |iAddr sz x i=>
  simp only[opE]at h;split at h
  ·exact mp h
  ·cases h
 |iAddrA n sz x i=>
  simp only[opE]at h;split at h
  ·split at h
   ·exact mp h
   ·cases h
  ·cases h
 |idx n sz agg x i=>
  simp only[opE]at h;split at h
  ·split at h
   ·exact mp h
   ·cases h
  ·cases h
 |idxS x i=>
  simp only[opE]at h;split at h
  ·split at h
   ·exact mp h
   ·cases h
  ·cases h
 |ext i x=>
  simp only[opE]at h;split at h
  ·exact mp h
  ·cases h
 |len str x=>exact mp h
 |mm isMax x r=>exact mp h
 |bld zero parts=>exact mp h
 |bldS md sz xs=>
  simp only[AK.kind]at hk;split at hk
  ·rename_i e;subst e;simp only[opE]at h;split at h
   ·exact sm h
   ·cases h
  ·exact absurd rfl hk
 |box n x=>simp[AK.kind]at hk
 |alc zero=>simp[AK.kind]at hk
 |ld n agg a=>exact mp h
 |st mv n a v=>simp[AK.kind]at hk
 |mk md sz bytes zero l c=>
  simp only[AK.kind]at hk;split at hk
  ·rename_i e;subst e;simp only[opE]at h;split at h
   ·split at h
    ·split at h
     ·split at h
      ·exact sm h
      ·cases h
     ·cases h
    ·cases h
   ·cases h
  ·exact absurd rfl hk
 |slc str sz x lo hi=>
  simp only[opE]at h;split at h
  ·exact mp h
  ·cases h
 |app md sz bytes x y=>simp[AK.kind]at hk
 |cpy sz x y=>simp[AK.kind]at hk
 |clr zero x=>simp[AK.kind]at hk
 |mkf f caps=>exact sm h
 |capK x=>exact mp h
 |appZ sz bytes zero x y=>simp[AK.kind]at hk
 |slc3 sz x l h' m=>simp[AK.kind]at hk
 |slc0 x l h' m=>
  simp only[opE]at h;split at h
  ·exact mp h
  ·cases h
 |dead=>cases h
 |mkMap=>simp[AK.kind]at hk
 |lkp ag sh zero ok m k=>exact mp h
 |mup ag sh m k v=>simp[AK.kind]at hk
 |lenM m=>exact mp h
 |call f args scalar=>simp[AK.kind]at hk
 |callV x args scalar=>simp[AK.kind]at hk
theorem opE_blind (site:Nat) {k:AK} (hk:k.kind=0):opE site k g ρ'=opE site k g ρ:=by
 cases k<;>first|rfl|(simp[AK.kind]at hk;done)|skip
 ·rename_i md sz xs;simp only[AK.kind]at hk;split at hk
  ·rename_i e;subst e;rfl
  ·cases hk
 ·rename_i md sz bytes zero l c;simp only[AK.kind]at hk;split at hk
  ·rename_i e;subst e;rfl
  ·cases hk
end
end Go.Am

namespace Go.Am
variable [Glob]
theorem gT_pT:∀(s:zsa7) (i:RId) (o:TObj) (j:RId),gT (pT s i o) j=if i=j then some o else gT s j
 |[],i,o,j=>by simp[pT,gT]
 |(i',o')::r,i,o,j=>by
  simp only[pT];split
  ·rename_i e;subst e;simp only[gT];split<;>rfl
  ·rename_i e;simp only[gT,gT_pT r i o j];by_cases h:i'=j
   ·subst h;rw[if_pos rfl,if_neg (fun x=>e x.symm),if_pos rfl]
   ·rw[if_neg h,if_neg h]
theorem gT_pTs:∀(upd:List (RId×TObj)) (s:zsa7),gT (pTs s upd)=updT (gT s) upd
 |[],s=>rfl
 |(i,o)::r,s=>by
  simp only[pTs,updT,gT_pTs r]
  congr 1
  funext j;exact gT_pT s i o j
theorem gE_putE (env:Env) (d:Option Nat) (v:AVal) (t:Nat):gE (putE env d v) t=if d=some t then v else gE env t:=by
 cases d with
 |none=>simp[putE]
 |some d=>simp[putE,gE]
def marks (ds:List Nat):List Deferred:=ds.map fun D=>{ target:=.collected D,args:=#[] }
def Base.dsOK (B:Base) (C0:Ctx):Prop:=∀D∈B.ds,B.w.heap[D]?=some (.deferred (some []))∧¬B.M D∧C0.w.heap.size≤D
structure Good (B:Base) (C0 C:Ctx) (n:Nat) (s:St) (a:Act):Prop where
 ρ:C.ρ=flat (gT s.objs)
 inv:Inv B C
 env:RepE C (gE s.env) a
 size:a.tmps.size=n
 ext:Ext (fun i=>i) (fun id=>id.1.1=0) C0 C
 defers:a.defers=marks B.ds
 ds:B.dsOK C0
 le:C0.w.heap.size≤B.w.heap.size∧B.ds.Nodup
theorem RepE.put {C C':Ctx} {g:Nat→AVal} {a:Act} (h:RepE C g a) (hg:Grow C C') {n:Nat} (hn:a.tmps.size=n) {d:Option Nat} (hd:d.all (·<n)=true) {v:AVal} {val:Value} (hv:RepA C' v val):
  RepE C' (fun t=>if d=some t then v else g t) (a.put d val):=by
 refine⟨fun t=>?_,h.glob.mono hg.F⟩;cases d with
 |none=>simpa[Act.put]using (h.env t).grow hg
 |some d=>
  simp only[Option.all_some,decide_eq_true_eq]at hd;by_cases e:d=t
  ·subst e;simp only[if_true,Act.put]
   have:(a.tmps.setIfInBounds d val).getD d undef=val:=by
    simp[Array.getD_eq_getD_getElem?,hn,hd]
   rw[this];exact hv
  ·have e':¬(some d=some t):=fun x=>e (Option.some.inj x)
   simp only[e',if_false,Act.put]
   have:(a.tmps.setIfInBounds d val).getD t undef=a.tmps.getD t undef:=by
    simp[Array.getD_eq_getD_getElem?,Array.getElem?_setIfInBounds_ne e]
   rw[this];exact (h.env t).grow hg
theorem Ext.thenGrow {C0 C C':Ctx} {D:Id→Prop} (h:Ext (fun i=>i) D C0 C) (hg:Grow C C'):Ext (fun i=>i) D C0 C':=by
 refine⟨fun b o v hv=>hg.F _ _ _ (h.F _ _ _ hv),fun id L hd hb=>hg.box id L trivial (h.box id L hd hb),fun id A hd ha=>?_,fun id b hd hb=>hg.blk id b trivial (h.blk id b hd hb)⟩;obtain⟨A',h1,h2,h3⟩:=h.arr id A hd ha;obtain⟨A'',h4,h5,h6⟩:=hg.arr id A' trivial h1;refine⟨A'',h4,Nat.le_trans h2 h5,fun e=>?_⟩;obtain⟨a1,a2,a3⟩:=h3 (by omega);obtain⟨b1,b2,b3⟩:=h6 (by omega);exact⟨by rw[b1,a1],by rw[b2,a2],by omega⟩
section
variable {P:Program} {B:Base} {C0:Ctx} {K:Orc} {n:Nat} {rd:Option Nat}
theorem cOp_noDefer {m:Mk} {o:Oper} {k:AK} (h:cOp P m o=some k):∀c,o.op≠.defer c:=by
 intro c e;simp[cOp,e]at h
theorem wpOp_sound (hS:zyd7 P K) {ops:Array Oper} {Q:Exit→Act→World→Prop} {i:Nat} {o:Oper} (hi:ops[i]?=some o) {ms:List (Nat×Mk)} {k:AK} {gd:Option (Nat×Bool)} (hc:cOper P n ms ops.toList i o=some (k,gd)) {lg:Bool}
  {C:Ctx} {g:Nat→AVal} {a:Act} {T:TLook} (hI:Inv B C) (hρ:C.ρ=flat T) (hE:RepE C g a) (hn:a.tmps.size=n) {out:TOut} (h:aoE K ⟨o.dst,k,gd,lg⟩ g T=some out) {next:Act→World→Prop}
  (hnext:∀val C',C'.ρ=flat (updT T out.2)→Inv B C'→Grow C C'→RepE C' (fun t=>if o.dst=some t then out.1 else g t) (a.put o.dst val)→(a.put o.dst val).tmps.size=n→next (a.put o.dst val) C'.w):
  wpOpIn (fR rd) 0 P ops Q i next a C.w:=by
 unfold wpOpIn;simp only[hi];have hc0:=hc;unfold cOper at hc
 have hsize:∀val,(a.put o.dst val).tmps.size=n:=by
  intro val;cases o.dst<;>simp[Act.put,hn]
 have hdo:∀(hk:cOp P (mkOf ms i) o=some k),(o.dst.all (·<n))=true→opT K (o.dst.getD 0) k g T=some out→o.wpIn (fR rd) 0 P a C.w next Q:=by
  intro hk hd hop;have:=op_all (B:=B) hS hI hρ hE (v:=out.1) (us:=out.2) hk (by simpa using hop);refine this.wp (cOp_noDefer hk) fun val w' ⟨C',e1,e2,e3,e4,e5⟩=>?_
  subst e1;exact hnext val C' e2 e3 e4 (hE.put e4 hn hd e5) (hsize val)
 have hskip:out=(.tup [],[])→(o.dst.all (·<n))=true→next (a.put o.dst undef) C.w:=by
  intro e hd;subst e;refine hnext undef C hρ hI (Grow.refl C) (hE.put (Grow.refl C) hn hd ?_) (hsize undef);simp[RepA,RepL,undef]
 cases hgd:o.guard with
 |none=>
  rw[hgd]at hc;simp only at hc;split at hc
  ·rename_i k' g' hk hg;simp only[Option.some.injEq]at hg;subst hg;split at hc
   ·rename_i hd;simp only[Option.some.injEq,Prod.mk.injEq]at hc;obtain⟨rfl,rfl⟩:=hc;simp only[aoE]at h;have hw:Region.wanted o (yielded ops a.tmps)=true:=by simp[Region.wanted,hgd]
    simp only[hw,if_true];exact hdo hk hd h
   ·cases hc
  ·cases hc
 |some jw=>
  obtain⟨j,want⟩:=jw;rw[hgd]at hc;simp only at hc;split at hc
  ·rename_i k' g' hk hg;split at hg
   ·rename_i t ht;simp only[Option.some.injEq]at hg;subst hg;split at hc
    ·rename_i hd;simp only[Option.some.injEq,Prod.mk.injEq]at hc;obtain⟨rfl,rfl⟩:=hc;simp only[aoE]at h;have hht:((ops[j]?).bind (·.dst))=some t:=by simpa using ht
     have hy:∀v,a.tmps.getD t undef=v→yielded ops a.tmps j=match v with|.bool b=>some b|_=>none:=by
      intro v hv;unfold yielded;rw[hht];simp only[Option.bind_some];cases e:a.tmps[t]? with
      |none=>
       have:a.tmps.getD t undef=undef:=by simp[Array.getD_eq_getD_getElem?,e]
       rw[this]at hv;subst hv;rfl
      |some u=>
       have:a.tmps.getD t undef=u:=by simp[Array.getD_eq_getD_getElem?,e]
       rw[this]at hv;subst hv;cases u<;>rfl
     have hrt:=hE.env t;split at h
     ·rename_i b hb;rw[hb]at hrt;have hyb:=hy _ (rep_bool hrt);simp only at hyb;have hw:Region.wanted o (yielded ops a.tmps)=(b==want):=by simp[Region.wanted,hgd,hyb]
      rw[hw];split at h
      ·rename_i hbw;subst hbw;simp only[BEq.rfl,if_true];exact hdo hk hd h
      ·rename_i hbw;have:(b==want)=false:=by simpa using hbw
       rw[this];simp only[Option.some.injEq]at h;exact⟨fun _ _=>trivial,hskip h.symm hd⟩
     ·rename_i hb;rw[hb]at hrt;simp only[RepA,RepL]at hrt;obtain⟨cs,h1,h2⟩:=hrt;have hyb:=hy _ h1;simp only at hyb;have hw:Region.wanted o (yielded ops a.tmps)=false:=by simp[Region.wanted,hgd,hyb]
      rw[hw];simp only[Option.some.injEq]at h;exact⟨fun _ _=>trivial,hskip h.symm hd⟩
     ·cases h
    ·cases hc
   ·cases hg
  ·cases hc
end
end Go.Am

namespace Go.Am
variable [Glob]
section
variable {g g':Nat→AVal} {T T':TLook}
theorem opT_slots (K:Orc) (site:Nat) {k:AK} (T:TLook) (h:∀t∈k.slots,g' t=g t):opT K site k g' T=opT K site k g T:=by
 have hf:flatE site k g' T=flatE site k g T:=by unfold flatE;rw[opE_slots site (flat T) h]
 unfold opT;split
 ·rw[pairs_congr (by simpa[AK.slots]using h)]
 ·simp only[AK.slots,List.mem_append,or_imp,forall_and]at h;rw[zba7 h.1,pairs_congr h.2]
 ·rename_i sz;rw[opE_slots (k:=.mvNil .r sz) site (flat T) (by simp[AK.slots])]
 ·rename_i sz bytes l c;rw[opE_slots (k:=.mk .r sz bytes [.nils] l c) site (flat T) (by simpa[AK.slots]using h)]
 ·simp only[AK.slots,List.mem_append,or_imp,forall_and]at h;rw[zba7 h.1,zba7 h.2]
 ·rw[opE_slots (k:=.mkMap true) site (flat T) (by simp[AK.slots])]
 ·have h0:=h;simp only[AK.slots,List.mem_append,or_imp,forall_and]at h;rw[zba7 h.1.1,zba7 h.1.2,zba7 h.2,hf]
 ·have h0:=h;simp only[AK.slots,List.mem_append,or_imp,forall_and]at h;rw[zba7 h.1,zba7 h.2,hf]
 ·exact hf
theorem zzd7:∀{us:List (RId×TObj)} {T T':TLook} {r:RId},T' r=T r→updT T' us r=updT T us r
 |[],T,T',r,h=>h
 |(i,o)::us,T,T',r,h=>by
  simp only[updT];exact zzd7 (by by_cases e:i=r<;>simp[e,h])
theorem decT_congr {v:AVal} (h:∀i∈v.ids,T' i.1=T i.1):decT T' v=decT T v:=by
 cases v with
 |rsl id ver sz off len=>
  obtain⟨r,i,j⟩:=id;simp only[decT,h (r,i,j) (by simp[AVal.ids])]
 |_=>rfl
theorem decLsT_congr:∀{l:List AVal} {T T':TLook},(∀i∈AVal.idsL l,T' i.1=T i.1)→decLsT T' l=decLsT T l
 |[],T,T',_=>rfl
 |v::r,T,T',h=>by
  simp only[AVal.idsL,List.mem_append,or_imp,forall_and]at h;simp only[decLsT,decT_congr h.1];cases decT T v with
  |none=>rfl
  |some p=>
   obtain⟨d,us⟩:=p;simp only[decLsT_congr (l:=r) (T:=updT T us) (T':=updT T' us) fun i hi=>zzd7 (h.2 i hi)]
theorem decV_congr {v:AVal} (h:∀i∈v.ids,T' i.1=T i.1):decV T' v=decV T v:=by
 cases v with
 |agg l=>simp only[decV];rw[decLsT_congr (by simpa[AVal.ids]using h)]
 |_=>exact decT_congr h
theorem argsT_congr:∀{l:List (AVal×Bool)} {T T':TLook},(∀i∈AVal.idsL (l.map (·.1)),T' i.1=T i.1)→argsT T' l=argsT T l
 |[],T,T',_=>rfl
 |(v,true)::r,T,T',h=>by
  simp only[List.map_cons,AVal.idsL,List.mem_append,or_imp,forall_and]at h;simp only[argsT,argsT_congr h.2]
 |(v,false)::r,T,T',h=>by
  simp only[List.map_cons,AVal.idsL,List.mem_append,or_imp,forall_and]at h;simp only[argsT,decV_congr h.1];cases decV T v with
  |none=>rfl
  |some p=>
   obtain⟨d,us⟩:=p;simp only[argsT_congr (l:=r) (T:=updT T us) (T':=updT T' us) fun i hi=>zzd7 (h.2 i hi)]
theorem lift1_congr {id:Id} {o:Obj} (h:T' id.1=T id.1):lift1 T' id o=lift1 T id o:=by simp only[lift1,h]
theorem lift1_key {id:Id} {o:Obj} {u:RId×TObj} (h:lift1 T id o=some u):u.1=id.1:=by
 unfold lift1 at h;split at h
 ·split at h
  ·split at h
   ·split at h
    ·simp only[Option.some.injEq]at h;rw[←h]
    ·cases h
   ·cases h
  ·cases h
 ·cases h
 ·split at h
  ·simp only[Option.some.injEq]at h;rw[←h]
  ·cases h
theorem liftX_congr:∀{upd:List (Id×Obj)} {T T':TLook},(∀i∈upd.map (·.1),T' i.1=T i.1)→liftX T' upd=liftX T upd
 |[],T,T',_=>rfl
 |(id,o)::r,T,T',h=>by
  simp only[List.map_cons,List.mem_cons,forall_eq_or_imp]at h;simp only[liftX,lift1_congr h.1];cases lift1 T id o with
  |none=>rfl
  |some u=>
   simp only;rw[liftX_congr (upd:=r) (T:=updT T [u]) (T':=updT T' [u]) fun i hi=>zzd7 (h.2 i hi)]
theorem liftX_keys:∀{upd:List (Id×Obj)} {T:TLook} {us:List (RId×TObj)},liftX T upd=some us→us.map (·.1)=upd.map (·.1.1)
 |[],T,us,h=>by simp only[liftX,Option.some.injEq]at h;simp[←h]
 |(id,o)::r,T,us,h=>by
  simp only[liftX]at h;split at h
  ·cases h
  ·rename_i u hu;split at h
   ·cases h
   ·rename_i us' hus;simp only[Option.some.injEq]at h;subst h;simp[liftX_keys hus,lift1_key hu]
theorem grown_congr {id:Id} {o:Obj} (h:T' id.1=T id.1):grown T' id o=grown T id o:=by simp only[grown,h]
theorem grown_key {id:Id} {o:Obj} {u:RId×TObj} (h:grown T id o=some u):u.1=id.1:=by
 unfold grown at h;split at h
 ·split at h
  ·split at h
   ·simp only[Option.some.injEq]at h;rw[←h]
   ·cases h
  ·cases h
 ·split at h
  ·split at h
   ·simp only[Option.some.injEq]at h;rw[←h]
   ·cases h
  ·cases h
 ·cases h
theorem lift_congr {upd:List (Id×Obj)} (h:∀i∈upd.map (·.1),T' i.1=T i.1):lift T' upd=lift T upd:=by
 match upd,h with
 |[],_=>rfl
 |[(id,o)],h=>
  have h1:T' id.1=T id.1:=h id (by simp);simp only[lift,grown_congr h1,liftX_congr h]
 |a::b::r,h=>simp only[lift,liftX_congr h]
theorem lift_keys {upd:List (Id×Obj)} {us:List (RId×TObj)} (h:lift T upd=some us):us.map (·.1)=upd.map (·.1.1):=by
 match upd,h with
 |[],h=>simp only[lift,Option.some.injEq]at h;simp[←h]
 |[(id,o)],h=>
  simp only[lift]at h;split at h
  ·rename_i u hu;simp only[Option.some.injEq]at h;subst h;simp[grown_key hu]
  ·exact liftX_keys h
 |a::b::r,h=>simp only[lift]at h;exact liftX_keys h
theorem flatE_objs (site:Nat) {k:AK} {out:TOut} (h:flatE site k g T=some out) (h1:∀r∈(touch k g).map (·.1),T' r=T r) (h2:∀r∈out.2.map (·.1),T' r=T r):flatE site k g T'=some out:=by
 unfold flatE at h ⊢;cases ho:opE site k g (flat T) with
 |none=>rw[ho]at h;cases h
 |some p=>
  obtain⟨v,upd⟩:=p;rw[ho]at h;simp only at h;cases hl:lift T upd with
  |none=>rw[hl]at h;cases h
  |some us=>
   rw[hl]at h;simp only[Option.some.injEq]at h;subst h;have hk:=lift_keys hl
   have hupd:∀i∈upd.map (·.1),T' i.1=T i.1:=by
    intro i hi;apply h2;simp only;rw[hk];obtain⟨p,hp,rfl⟩:=List.mem_map.1 hi;exact List.mem_map.2 ⟨p,hp,rfl⟩
   have:=opE_objs (ρ':=flat T') site ho (fun i hi=>by
    rcases hi with hi|hi
    ·exact zka7 (h1 _ (List.mem_map.2 ⟨i,hi,rfl⟩))
    ·exact zka7 (hupd i hi))
   rw[this];simp only;rw[lift_congr hupd,hl]
theorem zxc7 {r:RId} {pv i:Nat} {old:Option Cell} {mv:Bool} {v:AVal} (h:∀x∈v.ids,T' x.1=T x.1):cellIn T' r pv old i mv v=cellIn T r pv old i mv v:=by
 have hd:cellIn.data T' r old v=cellIn.data T r old v:=by unfold cellIn.data;rw[decT_congr h]
 unfold cellIn;split
 ·rename_i r2 i2 j2 ver sz off len;rw[h (r2,i2,j2) (by simp[AVal.ids])];rw[hd]
 ·exact hd
theorem newVer_flat {r:RId} (h:T' r=T r):zwa7 (flat T') (r,0,0)=zwa7 (flat T) (r,0,0):=zja7 (zka7 h)
theorem pvN_congr {r:RId} (h:T' r=T r):pvN T' r=pvN T r:=by simp only[pvN,h]
theorem callE_objs (K:Orc) (site:Nat) {f:FuncId} {args:List (AVal×Bool)} {sc:Bool} {out:TOut} (h:callE K site f args sc T=some out)
  (h1:∀r∈touchC args T,T' r=T r) (h2:∀r∈out.2.map (·.1),T' r=T r):callE K site f args sc T'=some out:=by
 unfold callE at h ⊢;have ht:∀i∈AVal.idsL (args.map (·.1)),T' i.1=T i.1:=fun i hi=>h1 _ (List.mem_append.2 (.inl (List.mem_map.2 ⟨i,hi,rfl⟩)))
 rw[argsT_congr ht];cases ha:argsT T args with
 |none=>rw[ha]at h;cases h
 |some p=>
  obtain⟨vs,us⟩:=p;rw[ha]at h;simp only at h ⊢;cases hcol:collect (updT T us) 64 (AVal.ridsL vs) []with
  |none=>rw[hcol]at h;cases h
  |some order=>
   rw[hcol]at h;have ho:∀i∈order,updT T' us i=updT T us i:=fun i hi=>zzd7 (h1 i (List.mem_append.2 (.inr (by simp only[ha,hcol];exact hi))))
   have hcc:∀(n:Nat) (todo done res:List RId),collect (updT T us) n todo done=some res→(∀i∈res,updT T' us i=updT T us i)→collect (updT T' us) n todo done=some res:=by
    have done':∀(n:Nat) (todo done res:List RId),collect (updT T us) n todo done=some res→∀i∈done,i∈res:=by
     intro n
     induction n with
     |zero=>intro todo done res h;simp[collect]at h
     |succ n ih=>
      intro todo done res h;cases todo with
      |nil=>simp only[collect,Option.some.injEq]at h;subst h;exact fun _ h=>h
      |cons id todo=>
       simp only[collect]at h;split at h
       ·exact ih _ _ _ h
       ·split at h
        ·cases h
        ·exact fun i hi=>ih _ _ _ h i (by simp[hi])
    intro n
    induction n with
    |zero=>intro todo done res h _;simp[collect]at h
    |succ n ih=>
     intro todo done res h hr;cases todo with
     |nil=>simpa only[collect]using h
     |cons id todo=>
      simp only[collect]at h ⊢;split at h
      ·rename_i hid;rw[if_pos hid];exact ih _ _ _ h hr
      ·rename_i hid;rw[if_neg hid];split at h
       ·cases h
       ·rename_i o ho;rw[hr id (done' _ _ _ _ h id (by simp)),ho];exact ih _ _ _ h hr
   have hgc:∀(l:List RId),(∀i∈l,updT T' us i=updT T us i)→gather (updT T' us) l=gather (updT T us) l:=by
    intro l
    induction l with
    |nil=>intro _;rfl
    |cons id r ih=>
     intro h;simp only[gather,h id (by simp),ih fun i hi=>h i (by simp[hi])]
   rw[hcc _ _ _ _ hcol ho];simp only at h ⊢;rw[hgc order ho];cases hg:gather (updT T us) order with
   |none=>rw[hg]at h;cases h
   |some os=>
    rw[hg]at h;simp only at h ⊢;cases hK:K f (AVal.trenL (toPos order) vs) (os.map (TObj.tren (toPos order))) with
    |none=>rw[hK]at h;cases h
    |some q=>
     obtain⟨v,os'⟩:=q;rw[hK]at h;simp only at h ⊢;split at h
     ·rename_i hsc;rw[if_pos hsc];exact h
     ·rename_i hsc;rw[if_neg hsc];split at h
      ·cases h
      ·rename_i hlen;rw[if_neg hlen];split at h
       ·cases h
       ·rename_i hfr;simp only[Option.some.injEq]at h
        have key:∀j,j<os'.length-order.length→updT T' us (site+1,j)=updT T us (site+1,j):=by
         intro j hj;refine zzd7 (h2 _ ?_);rw[←h];simp only[List.map_append,List.mem_append];right;rw[List.map_fst_zip (by simp)];refine List.mem_map.2 ⟨order.length+j,by simp;omega,?_⟩;have:order[order.length+j]?=none:=by simp
         simp[zdb7,this]
        have hfr':¬(List.range (os'.length-order.length)).any (fun j=>(updT T' us (site+1,j)).isSome)=true:=by
         intro hx;rw[List.any_eq_true]at hx;obtain⟨j,hj,hjs⟩:=hx;refine hfr (List.any_eq_true.2 ⟨j,hj,?_⟩);rw[←key j (by simpa using hj)];exact hjs
        rw[if_neg hfr',h]
theorem opT_objs (K:Orc) (site:Nat) {k:AK} {out:TOut} (h:opT K site k g T=some out) (hT:∀r,r∈zfe7 k g T∨r∈out.2.map (·.1)→T' r=T r):opT K site k g T'=some out:=by
 have h2:∀r∈out.2.map (·.1),T' r=T r:=fun r hr=>hT r (.inr hr)
 unfold opT at h ⊢;split at h
 ·exact callE_objs K site h (fun r hr=>hT r (.inl hr)) h2
 ·rename_i x args sc
  try simp only at h ⊢
  split at h
  ·rename_i f caps hf
   try simp only[hf]
   by_cases hbig:BIGF≤f
   ·rw[if_pos hbig]at h ⊢;by_cases hne:f-BIGF=YID
    ·rw[if_pos hne]at h;cases h
    ·rw[if_neg hne]at h ⊢;refine callE_objs K site h (fun r hr=>hT r (.inl ?_)) h2;simp only[zfe7,hf,if_pos hbig];exact hr
   ·rw[if_neg hbig]at h ⊢;by_cases hne:f=YID
    ·rw[if_pos hne]at h;cases h
    ·rw[if_neg hne]at h ⊢;refine callE_objs K site h (fun r hr=>hT r (.inl ?_)) h2;simp only[zfe7,hf,if_neg hbig];exact hr
  ·rename_i id hf
   try simp only[hf]
   refine callE_objs K site h (fun r hr=>hT r (.inl ?_)) h2;simp only[zfe7,hf];exact hr
  ·cases h
 ·rename_i sz
  try simp only at h ⊢
  split at h
  ·rename_i id nv sz1 off len upd hop;split at h
   ·rename_i hsz;simp only[Option.some.injEq]at h;subst h;have hs:T' (site+1,0)=T (site+1,0):=h2 _ (by simp);obtain⟨nv',q1,q2⟩:=opE_mvNil_r hop
    have:=opE_objs (ρ':=flat T') site hop (fun i hi=>by
     rcases hi with hi|hi
     ·simp[touch]at hi
     ·subst q2;simp at hi;subst hi;exact zka7 hs)
    rw[this];simp only;rw[if_pos hsz,pvN_congr hs]
   ·cases h
  ·cases h
 ·rename_i sz bytes l c
  try simp only at h ⊢
  split at h
  ·rename_i id nv sz1 off len upd hop;split at h
   ·rename_i hsz;simp only[Option.some.injEq]at h;subst h;have hs:T' (site+1,0)=T (site+1,0):=h2 _ (by simp);obtain⟨nv',n,q1,q2⟩:=opE_mk_r hop
    have:=opE_objs (ρ':=flat T') site hop (fun i hi=>by
     rcases hi with hi|hi
     ·simp[touch]at hi
     ·subst q2;simp at hi;subst hi;exact zka7 hs)
    rw[this];simp only;rw[if_pos hsz,pvN_congr hs]
   ·cases h
  ·cases h
 ·rename_i bytes x y;have hx:∀i∈(evX g x).ids,T' i.1=T i.1:=fun i hi=>hT _ (.inl (by simp only[zfe7,touch,List.map_append,List.mem_append];exact .inl (List.mem_map.2 ⟨i,hi,rfl⟩)))
  have hy:∀i∈(evX g y).ids,T' i.1=T i.1:=fun i hi=>hT _ (.inl (by simp only[zfe7,touch,List.map_append,List.mem_append];exact .inr (List.mem_map.2 ⟨i,hi,rfl⟩)))
  try simp only at h ⊢
  unfold appF at h ⊢;split at h
  ·rename_i w hw;have hw':∀i∈w.ids,T' i.1=T i.1:=fun i hi=>hy i (by rw[hw];simp[AVal.ids,AVal.idsL,hi])
   try simp only[hw]
   split at h
   ·rename_i r ver len hX
    try simp only[hX]
    have hr:T' r=T r:=hx (r,0,0) (by rw[hX];simp[AVal.ids]);rw[hr];split at h
    ·split at h
     ·rename_i hc;rw[if_pos hc,zxc7 hw'];exact h
     ·cases h
    ·cases h
   ·rename_i hX
    try simp only[hX]
    split at h
    ·rename_i nv hnv;split at h
     ·rename_i hroom;split at h
      ·rename_i c b us hcell;simp only[Option.some.injEq]at h;subst h;have hs:T' (site+1,0)=T (site+1,0):=h2 _ (by simp);have hnv':zwa7 (flat T') (nid site)=some nv:=by rw[←hnv];exact newVer_flat hs
       rw[hnv'];simp only;rw[if_pos hroom,zxc7 hw',pvN_congr hs,hcell]
      ·cases h
     ·cases h
    ·cases h
   ·rename_i hX
    try simp only[hX]
    split at h
    ·rename_i nv hnv;split at h
     ·rename_i hroom;split at h
      ·rename_i c b us hcell;simp only[Option.some.injEq]at h;subst h;have hs:T' (site+1,0)=T (site+1,0):=h2 _ (by simp);have hnv':zwa7 (flat T') (nid site)=some nv:=by rw[←hnv];exact newVer_flat hs
       rw[hnv'];simp only;rw[if_pos hroom,zxc7 hw',pvN_congr hs,hcell]
      ·cases h
     ·cases h
    ·cases h
   ·cases h
  ·cases h
 ·try simp only at h ⊢
  split at h
  ·rename_i v upd hop;simp only[Option.some.injEq]at h;subst h;have hs:T' (site+1,0)=T (site+1,0):=h2 _ (by simp)
   have hu:upd=[(nid site,.blk (.map []))]:=by
    simp only[opE]at hop;split at hop
    ·cases hop
    ·simp only[Option.some.injEq,Prod.mk.injEq]at hop;exact hop.2.symm
   have:=opE_objs (ρ':=flat T') site hop (fun i hi=>by
    rcases hi with hi|hi
    ·simp[touch]at hi
    ·subst hu;simp at hi;subst hi;exact zka7 hs)
   rw[this]
  ·cases h
 ·rename_i ag sh ax ak av;have hx:∀i∈(evX g ax).ids,T' i.1=T i.1:=fun i hi=>hT _ (.inl (by simp only[zfe7,touch,List.map_append,List.mem_append];exact .inl (List.mem_map.2 ⟨i,hi,rfl⟩)))
  have hy:∀i∈(evX g av).ids,T' i.1=T i.1:=fun i hi=>hT _ (.inl (by simp only[zfe7,touch,List.map_append,List.mem_append];exact .inr (List.mem_map.2 ⟨i,hi,rfl⟩)))
  have hfl:flatE site (.mup ag sh ax ak av) g T=some out→flatE site (.mup ag sh ax ak av) g T'=some out:=fun h=>flatE_objs site h (fun r hr=>hT r (.inl hr)) h2
  try simp only at h ⊢
  split at h
  ·rename_i r hX
   try simp only[hX]
   have hr:T' r=T r:=hx (r,0,0) (by rw[hX];simp[AVal.ids]);rw[hr];split at h
   ·rename_i pv es hTr
    try simp only[hTr]
    unfold mupF at h ⊢;split at h
    ·cases h
    ·rename_i kd hkd
     try simp only[hkd]
     split at h
     ·rename_i i hi
      try simp only[hi]
      split at h
      ·cases h
      ·rename_i old hold;rw[zxc7 hy]
       try simp only[hold]
       exact h
     ·rename_i hi
      try simp only[hi]
      rw[zxc7 hy];exact h
     ·cases h
   ·rename_i hTr;exact hfl h
  ·rename_i hX;exact hfl h
 ·rename_i mv n ax av;have hx:∀i∈(evX g ax).ids,T' i.1=T i.1:=fun i hi=>hT _ (.inl (by simp only[zfe7,touch,List.map_append,List.mem_append];exact .inl (List.mem_map.2 ⟨i,hi,rfl⟩)))
  have hy:∀i∈(evX g av).ids,T' i.1=T i.1:=fun i hi=>hT _ (.inl (by simp only[zfe7,touch,List.map_append,List.mem_append];exact .inr (List.mem_map.2 ⟨i,hi,rfl⟩)))
  have hfl:flatE site (.st mv n ax av) g T=some out→flatE site (.st mv n ax av) g T'=some out:=fun h=>flatE_objs site h (fun r hr=>hT r (.inl hr)) h2
  try simp only at h ⊢
  split at h
  ·rename_i r ver i hX
   try simp only[hX]
   have hr:T' r=T r:=hx (r,0,0) (by rw[hX];simp[AVal.ids]);rw[hr];split at h
   ·rename_i ver' pv cells hTr
    try simp only[hTr]
    split at h
    ·rename_i hc;rw[if_pos hc];unfold stF at h ⊢;split at h
     ·cases h
     ·rename_i old hold;rw[zxc7 hy]
      try simp only[hold]
      exact h
    ·cases h
   ·rename_i hTr;exact hfl h
  ·rename_i hX;exact hfl h
 ·rename_i hn1 hn2 hn3 hn4 hn5 hn6 hn7 hn8;refine flatE_objs site h (fun r hr=>hT r (.inl ?_)) h2;unfold zfe7;split
  ·exact absurd rfl (hn1 _ _ _)
  ·exact absurd rfl (hn2 _ _ _)
  ·exact hr
theorem opT_quiet (K:Orc) (site:Nat) {k:AK} {out:TOut} (h:opT K site k g T=some out) (hk:k.kind≠2):out.2=[]:=by
 unfold opT at h;split at h
 ·simp[AK.kind]at hk
 ·simp[AK.kind]at hk
 ·simp[AK.kind]at hk
 ·simp[AK.kind]at hk
 ·simp[AK.kind]at hk
 ·simp[AK.kind]at hk
 ·simp[AK.kind]at hk
 ·simp[AK.kind]at hk
 ·unfold flatE at h;split at h
  ·cases h
  ·rename_i v upd ho;have:=opE_quiet site ho hk;simp only at this;subst this;simp only[lift,Option.some.injEq]at h;subst h;rfl
theorem opT_blind (K:Orc) (site:Nat) {k:AK} (hk:k.kind=0):opT K site k g T'=opT K site k g T:=by
 unfold opT;split
 ·simp[AK.kind]at hk
 ·simp[AK.kind]at hk
 ·simp[AK.kind]at hk
 ·simp[AK.kind]at hk
 ·simp[AK.kind]at hk
 ·simp[AK.kind]at hk
 ·simp[AK.kind]at hk
 ·simp[AK.kind]at hk
 ·unfold flatE;rw[opE_blind (ρ':=flat T') (ρ:=flat T) site hk];cases ho:opE site _ g (flat T) with
  |none=>rfl
  |some p=>
   obtain⟨v,upd⟩:=p;have:=opE_quiet site ho (by rw[hk];simp);simp only at this;subst this;rfl
end
end Go.Am
