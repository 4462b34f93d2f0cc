/- Parts of the proofs of the statement, joined and made short: AmFun AmLim. -/
import Derived.Test.YtmoibjjpfemgjaaGreatDoorP16
import Derived.Tactics
import Derived.RangeFuncLeaves
set_option linter.unusedVariables false
set_option linter.unusedSimpArgs false
set_option linter.unusedSectionVars false
namespace Go.Am
variable [Glob]
theorem collect_front {ρ:TLook}:∀(ids:List RId) {n:Nat} {rest done res:List RId},collect ρ n (ids++rest) done=some res→ids.Nodup→(∀i∈ids,i∉done)→∃l,res=done++ids++l
 |[],n,rest,done,res,h,hn,hd=>by
  have:∀{n:Nat} {todo done:List RId},collect ρ n todo done=some res→∃l,res=done++l:=by
   intro n
   induction n with
   |zero=>intro todo done h;simp[collect]at h
   |succ n ih=>
    intro todo done h;cases todo with
    |nil=>simp only[collect,Option.some.injEq]at h;exact⟨[],by simp[h]⟩
    |cons i r=>
     simp only[collect]at h;split at h
     ·exact ih h
     ·split at h
      ·cases h
      ·obtain⟨l,hl⟩:=ih h;exact⟨i::l,by simp[hl]⟩
  simpa using this h
 |i::r,0,rest,done,res,h,hn,hd=>by simp[collect]at h
 |i::r,n+1,rest,done,res,h,hn,hd=>by
  simp only[List.cons_append,collect]at h;rw[if_neg (hd i (by simp))]at h;split at h
  ·cases h
  ·rename_i o ho;rw[List.append_assoc]at h;rw[List.nodup_cons]at hn
   obtain⟨l,hl⟩:=collect_front r h hn.2 (fun j hj hm=>by
    rcases List.mem_append.1 hm with hm|hm
    ·exact hd j (by simp[hj]) hm
    ·simp at hm;subst hm;exact hn.1 hj)
   exact⟨l,by simp[hl]⟩
section
variable {P:Program} {B:Base} {C0:Ctx} {K:Orc} {n:Nat}
def retV:List Value→Value
 |[v]=>v
 |vs=>.tuple vs.toArray
theorem res_run1 {C:Ctx} {s:St} {a:Act} (hG:Good B C0 C n s a) {x:ResultVar} {ar:AR} {v:AVal} (h:cRes1 P n x=some ar) (hv:resV s ar=some v):
  ∃val,(match x with|.tmp t=>(pure (a.tmps.getD t undef):Sem Value)|.cell ad t=>do loadVar t (←asAddr (a.tmps.getD ad undef))).run P C.w=.ok val C.w∧RepA C v val:=by
 cases x with
 |tmp t=>
  simp only[cRes1]at h;split at h
  ·simp only[Option.some.injEq]at h;subst h;simp only[resV,Option.some.injEq]at hv;subst hv;exact⟨_,rfl,hG.env.env t⟩
  ·cases h
 |cell ad ty=>
  simp only[cRes1]at h;split at h
  ·rename_i q hq;split at h
   ·rename_i hc;simp only[Option.some.injEq]at h;subst h;simp only[resV]at hv;rw[←hG.ρ]at hv;obtain⟨b,of,h1,h2,h3⟩:=loadE_rep hG.inv hc.2 hv (hG.env.env ad);simp only[h1];cases e:q.agg
    ·obtain⟨u,hu,hr⟩:=h3 e;refine⟨u,?_,hr⟩;simp[asAddr,loadVar,run_isAgg hq,e,hu]
    ·obtain⟨cs,c1,c2,hr⟩:=h2 e;refine⟨_,?_,hr⟩;have:=run_loadCells_list (P:=P) C.w ⟨b,of,none⟩ cs (addr_cells c2);rw[c1]at this;simp[asAddr,loadVar,run_isAgg hq,e,run_sizeOf hq,this]
   ·cases h
  ·cases h
theorem res_run {C:Ctx} {s:St} {a:Act} (hG:Good B C0 C n s a):∀{rs:List ResultVar} {ars:List AR} {vs:List AVal},cRes P n rs=some ars→resVs s ars=some vs→
  ∃vals,(rs.mapM fun (x:ResultVar)=>(match x with|.tmp t=>(pure (a.tmps.getD t undef):Sem Value)|.cell ad t=>do loadVar t (←asAddr (a.tmps.getD ad undef)))).run P C.w=.ok vals C.w∧RepL C vs vals
 |[],ars,vs,h,hv=>by
  simp only[cRes,Option.some.injEq]at h;subst h;simp only[resVs,Option.some.injEq]at hv;subst hv;exact⟨[],rfl,by simp[RepL]⟩
 |x::r,ars,vs,h,hv=>by
  simp only[cRes]at h;split at h
  ·rename_i ar l h1 h2;simp only[Option.some.injEq]at h;subst h;simp only[resVs]at hv;split at hv
   ·rename_i v vs' h3 h4;simp only[Option.some.injEq]at hv;subst hv;obtain⟨val,q1,q2⟩:=res_run1 hG h1 h3;obtain⟨vals,q3,q4⟩:=res_run hG h2 h4;refine⟨val::vals,?_,?_⟩
    ·rw[List.mapM_cons];simp only[Sem.run_bind,q1,q3,Result.andThen_ok,Sem.run_pure]
    ·simp only[RepL];exact⟨val,vals,rfl,q2,q4⟩
   ·cases hv
  ·cases h
theorem results_run {C:Ctx} {s:St} {a:Act} (hG:Good B C0 C n s a) {fn:Func} {ars:List AR} {vs:List AVal} (h:cRes P n fn.results.toList=some ars) (hv:resVs s ars=some vs):
  ∃vals,(results fn a.tmps).run P C.w=.ok (retV vals) C.w∧RepL C vs vals:=by
 obtain⟨vals,h1,h2⟩:=res_run hG h hv;refine⟨vals,?_,h2⟩;simp only[results,Array.mapM_eq_mapM_toList,Sem.run_bind,Sem.run_map];have e:∀(f g:ResultVar→Sem Value),f=g→(fn.results.toList.mapM f).run P C.w=(fn.results.toList.mapM g).run P C.w:=fun f g e=>by rw[e]
 rw[e _ (fun (x:ResultVar)=>(match x with|.tmp t=>(pure (a.tmps.getD t undef):Sem Value)|.cell ad t=>do loadVar t (←asAddr (a.tmps.getD ad undef)))) (by funext x;cases x<;>rfl),h1];simp only[Result.andThen_ok,Sem.run_pure]
 match vals with
 |[]=>simp[retV]
 |[v]=>simp[retV]
 |v::v'::r=>simp[retV]
theorem resE_ok {C:Ctx} {T:TLook} (hI:Inv B C) (hρ:C.ρ=flat T) {v u:AVal} {keep:Bool} {us:List (RId×TObj)} (h:resE T keep v=some (u,us)):
  DecOK B C T us fun C1=>∀val,RepA C v val→RepA C1 u val:=by
 have stay:u=v→us=[]→DecOK B C T us fun C1=>∀val,RepA C v val→RepA C1 u val:=by
  rintro rfl rfl;exact⟨C,rfl,hρ,hI,Grow.refl C,fun val hv=>hv⟩
 have gen:(decV T v).map (fun p=>(AVal.dat p.1,p.2))=some (u,us)→DecOK B C T us fun C1=>∀val,RepA C v val→RepA C1 u val:=by
  intro h;obtain⟨⟨d,us'⟩,hd,he⟩:=zda7 h;simp only[Prod.mk.injEq]at he;obtain⟨rfl,rfl⟩:=he;obtain⟨C1,h1,h2,h3,h4,h5⟩:=decV_ok hI hρ hd;exact⟨C1,h1,h2,h3,h4,fun val hv=>by simp only[RepA];exact h5 val hv⟩
 cases v with
 |ref id off=>simp only[resE,Option.some.injEq,Prod.mk.injEq]at h;exact stay h.1.symm h.2.symm
 |nilp=>simp only[resE,Option.some.injEq,Prod.mk.injEq]at h;exact stay h.1.symm h.2.symm
 |fn f l=>simp only[resE,Option.some.injEq,Prod.mk.injEq]at h;exact stay h.1.symm h.2.symm
 |bref b id=>simp only[resE,Option.some.injEq,Prod.mk.injEq]at h;exact stay h.1.symm h.2.symm
 |nils=>
  simp only[resE]at h;split at h
  ·simp only[Option.some.injEq,Prod.mk.injEq]at h;exact stay h.1.symm h.2.symm
  ·exact gen h
 |cap0=>
  simp only[resE]at h;split at h
  ·simp only[Option.some.injEq,Prod.mk.injEq]at h;exact stay h.1.symm h.2.symm
  ·exact gen h
 |rsl id ver sz off len=>
  simp only[resE]at h;split at h
  ·simp only[Option.some.injEq,Prod.mk.injEq]at h;exact stay h.1.symm h.2.symm
  ·exact gen h
 |agg l=>
  simp only[resE]at h;split at h
  ·simp only[Option.some.injEq,Prod.mk.injEq]at h;exact stay h.1.symm h.2.symm
  ·exact gen h
 |_=>exact gen h
theorem ressE_ok {keep:Bool}:∀{l:List AVal} {C:Ctx} {T:TLook} {vs:List AVal} {us:List (RId×TObj)},Inv B C→C.ρ=flat T→ressE T keep l=some (vs,us)→
  DecOK B C T us fun C1=>∀cs,RepL C l cs→RepL C1 vs cs
 |[],C,T,vs,us,hI,hρ,h=>by
  simp only[ressE,Option.some.injEq,Prod.mk.injEq]at h;obtain⟨rfl,rfl⟩:=h;exact⟨C,rfl,hρ,hI,Grow.refl C,fun cs hcs=>by simpa[RepL]using hcs⟩
 |v::r,C,T,vs,us,hI,hρ,h=>by
  simp only[ressE]at h;split at h
  ·cases h
  ·rename_i d us1 h1;split at h
   ·cases h
   ·rename_i ds us2 h2;simp only[Option.some.injEq,Prod.mk.injEq]at h;obtain⟨rfl,rfl⟩:=h;refine (resE_ok hI hρ h1).then_ fun C1 e1 e2 e3 e4 e5=>?_
    obtain⟨C2,k1,k2,k3,k4,k5⟩:=ressE_ok e3 e2 h2;refine⟨C2,k1,k2,k3,k4,fun cs hcs=>?_⟩;simp only[RepL]at hcs ⊢;obtain⟨c,cs',rfl,h3,h4⟩:=hcs;exact⟨c,cs',rfl,(e5 c h3).grow k4,k5 cs' (h4.grow e4)⟩
theorem zipIdx_gE:∀(args:List AVal) (i t:Nat),gE ((args.zipIdx i).map fun p=>(p.2,p.1)) (i+t)=(args[t]?).getD .undef
 |[],i,t=>rfl
 |v::r,i,0=>by simp[gE]
 |v::r,i,t+1=>by
  simp only[List.zipIdx_cons,List.map_cons,gE];rw[if_neg (by omega),show i+(t+1)=i+1+t by omega,zipIdx_gE r (i+1) t];simp
theorem zipIdx_gT:∀(os:List TObj) (i:Nat) (id:RId),gT ((os.zipIdx i).map fun p=>(((0,p.2):RId),p.1)) id=if id.1=0∧i≤id.2 then os[id.2-i]? else none
 |[],i,id=>by simp[gT]
 |o::r,i,id=>by
  simp only[List.zipIdx_cons,List.map_cons,gT];obtain⟨a,b⟩:=id;by_cases e:(0,i)=(a,b)
  ·cases e;simp
  ·rw[if_neg e,zipIdx_gT r (i+1) (a,b)];simp only;by_cases h0:a=0
   ·subst h0;have hne:i≠b:=fun h=>e (by rw[h])
    by_cases hle:i+1≤b
    ·rw[if_pos ⟨rfl,hle⟩,if_pos ⟨rfl,by omega⟩,show b-i=b-(i+1)+1 by omega];simp
    ·rw[if_neg (fun h=>hle h.2),if_neg (fun h=>by omega)]
   ·rw[if_neg (fun h=>h0 h.1),if_neg (fun h=>h0 h.1)]
theorem ret_sound {C:Ctx} {s:St} {a:Act} (hG:Good B C0 C n s a) (hle:BLe (baseOf C0) B) {fn:AFun} {m:Nat} {v:AVal} {os':List TObj} (h:retE fn m s=some (v,os')) {rs:List AVal} (hrs:resVs s fn.res=some rs) {vals:List Value} (hrl:RepL C rs vals):
  ∃C',C'.w=C.w∧C'.ρ=flat (zpa7 os')∧Inv (baseOf C0) C'∧
   RepA C' v (retV vals)∧Ext (fun i=>i) (fun id=>id.1.1=0∧id.1.2<m) C0 C':=by
 unfold retE at h;rw[hrs]at h;simp only at h;split at h
 ·cases h
 ·rename_i vs us hvs;obtain⟨C1,k1,k3,k4,k5,k6⟩:=ressE_ok (hle.imp _ hG.inv) hG.ρ hvs;have hvr:=k6 _ hrl;simp only[gT_pTs]at h;split at h
  ·cases h
  ·rename_i order hcol;obtain⟨r1,r2,r3,r4,_⟩:=zvd7 _ 64 _ [] order hcol (by simp) (by simp)
   have hnd:((List.range m).map (fun j=>((0,j):RId))).Nodup:=by
    rw[List.nodup_iff_pairwise_ne,List.pairwise_iff_getElem];intro i j hi hj hlt h;simp at h;omega
   obtain⟨l,hl⟩:=collect_front _ hcol hnd (by simp);simp only[List.nil_append]at hl;split at h
   ·cases h
   ·rename_i os hos;simp only[Option.some.injEq,Prod.mk.injEq]at h;obtain⟨hv,rfl⟩:=h;obtain⟨g1,g2⟩:=zgf7 hos;obtain⟨hext,hinv⟩:=callee_inv k4 k3 r1 r4 g1 g2
    have hpos:∀j,j<m→(0,j)∈order∧toPos order (0,j)=(0,j):=by
     intro j hj
     have ho:order[j]?=some (0,j):=by
      rw[hl,List.getElem?_append_left (by simpa using hj)];simp[hj]
     refine⟨List.mem_of_getElem? ho,?_⟩;simp only[toPos,zee7 r1 ho]
    have back:∀id o,(zoa7 C1 order (os.map (TObj.tren (toPos order)))).ρ id=some o→∃i o1,C1.ρ i=some o1∧o=o1.ren (liftF (toPos order))∧(zoa7 C1 order (os.map (TObj.tren (toPos order)))).μ id=C1.μ i:=by
     intro id o ho;simp only[zoa7,flat,zpa7]at ho;split at ho
     ·rename_i o' he;split at he
      ·rename_i h0;rw[List.getElem?_map]at he;obtain⟨o1,ho1,ho2⟩:=zda7 he;have hlt:id.1.2<order.length:=by rw[←g1];exact (List.getElem?_eq_some_iff.1 ho1).1
       have hi:order[id.1.2]?=some order[id.1.2]:=by simp[hlt]
       have hTi:=g2 _ _ hi;rw[ho1]at hTi;have hid1:id.1=toPos order order[id.1.2]:=by rw[toPos,zee7 r1 hi,←h0]
       rw[←ho2,hid1,flatR_ren]at ho;obtain⟨ob1,q1,q2⟩:=zda7 ho;refine⟨(order[id.1.2],id.2),ob1,by rw[k3];simp only[flat,←hTi];exact q1,q2.symm,?_⟩;simp only[zoa7,hi,Option.getD_some]
      ·cases he
     ·cases ho
    refine⟨zoa7 C1 order (os.map (TObj.tren (toPos order))),k1,rfl,?_,?_,?_⟩
    ·refine⟨hinv.objs,hinv.disj,fun id o ho hw=>?_,hinv.bdisj,fun id x hx=>?_,?_,k4.Fw,k4.Fsub,k4.Fnew⟩
     ·obtain⟨i,o1,b1,b2,b3⟩:=back id o ho;rw[b3];exact k4.own i o1 b1 (by rw[b2,own_ren]at hw;exact hw)
     ·obtain⟨i,o1,b1,b2,b3⟩:=back id _ hx;rw[b3];obtain⟨y,rfl⟩:=zse7 b2.symm;exact k4.bown i y b1
     ·exact k4.kept
    ·have hrep:=RepL.ext hext vs _ (fun i hi=>r3 i.1 (List.mem_append.2 (.inr (List.mem_map.2 ⟨i,hi,rfl⟩)))) hvr;subst hv;have hlen:=hrep.length;change RepL _ (AVal.trenL (toPos order) vs) _ at hrep;change _=(AVal.trenL (toPos order) vs).length at hlen;generalize AVal.trenL (toPos order) vs=us at hrep hlen
     match us,vals,hrep,hlen with
     |[],[],hrep,_=>simp only[RepA];exact⟨_,rfl,by simpa using hrep⟩
     |[u],[val],hrep,_=>
      simp only[RepL]at hrep;obtain⟨c,cs,e,h1,h2⟩:=hrep;simp only[List.cons.injEq]at e;rw[e.1];exact h1
     |u::u'::us,val::val'::vals,hrep,_=>
      simp only[RepA];exact⟨_,rfl,by simpa using hrep⟩
     |[],_::_,_,hlen=>simp at hlen
     |[_],[],_,hlen=>simp at hlen
     |[_],_::_::_,_,hlen=>simp at hlen
     |_::_::_,[],_,hlen=>simp at hlen
     |_::_::_,[_],_,hlen=>simp at hlen
    ·have h1:=hG.ext.thenGrow k5
     refine⟨fun b o v hv=>hext.F _ _ _ (h1.F _ _ _ hv),fun id L hid hb=>?_,fun id A hid ha=>?_,fun id b hid hb=>by
      obtain⟨⟨i0,j⟩,p⟩:=id;obtain⟨rfl,hj⟩:=hid;have:=hext.blk ((0,j),p) b (hpos j hj).1 (h1.blk ((0,j),p) b rfl hb);simp only[liftF]at this
      rwa [(hpos j hj).2]at this⟩
     ·obtain⟨⟨i0,j⟩,p⟩:=id;obtain⟨rfl,hj⟩:=hid;have:=hext.box ((0,j),p) L (hpos j hj).1 (h1.box ((0,j),p) L rfl hb);simp only[liftF]at this
      rwa [(hpos j hj).2]at this
     ·obtain⟨⟨i0,j⟩,p⟩:=id;obtain⟨rfl,hj⟩:=hid;obtain⟨A',a1,a2,a3⟩:=h1.arr ((0,j),p) A rfl ha;obtain⟨A'',b1,b2,b3⟩:=hext.arr ((0,j),p) A' (hpos j hj).1 a1;simp only[liftF]at b1;rw[(hpos j hj).2]at b1;refine⟨A'',b1,Nat.le_trans a2 b2,fun e=>?_⟩;obtain⟨c1,c2,c3⟩:=a3 (by omega);obtain⟨d1,d2,d3⟩:=b3 (by omega);exact⟨by rw[d1,c1],by rw[d2,c2],by omega⟩
theorem Inv.other {C:Ctx} (hI:Inv B C) {D:Nat} {ds:Option (List Deferred)} (h:C.w.heap[D]?=some (.deferred ds)) (hB:B.w.heap.size≤D) (ds':Option (List Deferred)):
  Inv B { C with w:=C.w.putObj D (.deferred ds') }∧Grow C { C with w:=C.w.putObj D (.deferred ds') }:=by
 have hk:KeptB C.w (C.w.putObj D (.deferred ds')) (fun _ _=>False) (fun i=>i=D):=putObj_kept h (zce7 h) (by simp) _;have hg:Grow C { C with w:=C.w.putObj D (.deferred ds') }:=⟨fun _ _ _ h=>h,fun _ _ _ h=>h,fun _ A _ h=>⟨A,h,Nat.le_refl _,fun _=>⟨rfl,rfl,Nat.le_refl _⟩⟩,fun _ _ _ h=>h⟩;refine⟨⟨fun id o ho=>?_,hI.disj,hI.own,hI.bdisj,hI.bown,?_,fun b o v hv=>hk.cell_some (hI.Fw b o v hv) (fun x=>x),hI.Fsub,hI.Fnew⟩,hg⟩
 ·refine (hI.objs id o ho).keep hg hk (fun b o v hv=>.inl hv) (fun _ _ _ x=>x) fun x hx e=>?_
  subst hx;exact OwnBlk.not_deferred hI h ⟨id,x,ho,e⟩
 ·refine hI.kept.trans hk (fun _ _ _ h=>h) (fun _ _ _ h=>h.elim) (fun _ _ h=>h) (fun b hb e=>?_) (fun b hb h=>(hI.kept.blk b hb h).1);subst e;omega
theorem leaves_sound {fn:Func} {R:Ending→World→Prop} {s:St}:∀(ds:List Nat) {B:Base} {C:Ctx} {a:Act},Good B C0 C n s a→B.ds=ds→BLe (baseOf C0) B→
  (∀(C':Ctx) (B':Base),Good B' C0 C' n s { a with defers:=[] }→BLe (baseOf C0) B'→∃v,(results fn a.tmps).run P C'.w=.ok v C'.w∧R (.returned v) C'.w)→
  LeavesInM Fence.wide 0 P fn a.tmps R a.defers .returning C.w
 |[],B,C,a,hG,hds,hle,h=>by
  have hd:a.defers=[]:=by rw[hG.defers,hds];rfl
  obtain⟨tm,df⟩:=a;simp only at hd;subst hd;obtain⟨v,h1,h2⟩:=h C B hG hle;exact⟨v,h1,h2⟩
 |D::ds,B,C,a,hG,hds,hle,h=>by
  have hd:a.defers={ target:=.collected D,args:=#[] }::marks ds:=by rw[hG.defers,hds];rfl
  obtain⟨q1,q2,q3⟩:=hG.ds D (by rw[hds];simp);have hD:=hG.inv.kept.heap q1 (zce7 q1) q2;obtain⟨i2,g2⟩:=(hle.imp _ hG.inv).other hD q3 none;obtain⟨i3,b3⟩:=i2.rebase ds;have hnd:D∉ds∧ds.Nodup:=by have:=hG.le.2;rw[hds]at this;exact List.nodup_cons.1 this
  have hsz:C0.w.heap.size≤(C.w.putObj D (.deferred none)).heap.size:=by rw[World.putObj_size];exact Nat.le_trans hG.le.1 hG.inv.kept.size
  rw[hd];refine⟨by simp,.inl ⟨D,C.w.putObj D (.deferred none),rfl,run_takeDeferred hD,?_⟩⟩
  have hG2:Good ⟨C.w.putObj D (.deferred none),C.F,OwnSet { C with w:=C.w.putObj D (.deferred none) },OwnBlk { C with w:=C.w.putObj D (.deferred none) },ds⟩ C0 { C with w:=C.w.putObj D (.deferred none) } n s { a with defers:=marks ds }:=by
   refine⟨hG.ρ,i3,⟨fun t=>(hG.env.env t).grow g2,hG.env.glob.mono g2.F⟩,hG.size,hG.ext.thenGrow g2,rfl,fun D' hD'=>?_,hsz,hnd.2⟩;obtain⟨p1,p2,p3⟩:=hG.ds D' (by rw[hds];simp[hD']);have hne:D'≠D:=fun e=>hnd.1 (e▸hD')
   have h1:(C.w.putObj D (.deferred none)).heap[D']?=some (.deferred (some [])):=by
    rw[World.putObj_heap_other hne];exact hG.inv.kept.heap p1 (zce7 p1) p2
   exact⟨h1,OwnBlk.not_deferred i2 h1,p3⟩
  exact leaves_sound ds hG2 rfl b3 h
def LoopsOK (P:Program):Prop:=∀f fn c st,P.funcs[f]?=some fn→fn.body=some c→rfs c=[st]→Glob.lps f=some (fn.ntmps,st)
theorem fun_sound (hS:zae7 P K) (hL:LoopsOK P) {an:Ann} {keep:Bool} {f:FuncId} {fn:AFun} (hc:cFun P an keep f=some fn) {args:List AVal} {os:List TObj} {v:AVal} {os':List TObj} (h:zed7 K fn args os=some (v,os')):
  zkb7 P f=true∧CallOK P f args os v os':=by
 unfold cFun at hc;split at hc
 ·rename_i F hF;split at hc
  ·rename_i c hb;split at hc
   ·rename_i ac res hac hres
    have hchk:(decide (F.params.size+F.nfree≤F.ntmps)&&zkb7 P f&&rfOk an f c)=true∧some (⟨F.params.size+F.nfree,res,keep,ac,none⟩:AFun)=some fn:=by
     split at hc
     ·rename_i e;exact⟨e,hc⟩
     ·cases hc
    obtain⟨hchk,hc⟩:=hchk;simp only[Bool.and_eq_true,decide_eq_true_eq]at hchk;simp only[Option.some.injEq]at hc;subst hc;refine⟨hchk.1.2,?_⟩
    have hl:∀st∈rfs c,Glob.lps (tagOf an)=some (F.ntmps,st):=by
     have h2:=hchk.2;unfold rfOk at h2
     match hr:rfs c with
     |[]=>intro st hst;simp at hst
     |[st]=>
      intro st' hst';simp only[List.mem_singleton]at hst';subst hst';rw[hr]at h2;have:tagOf an=f:=by simpa using h2
      rw[this];exact hL f F c st' hF hb hr
     |_::_::_=>rw[hr]at h2;simp at h2
    intro C vals hρ hGl hI hr;unfold zed7 at h;simp only at h;split at h
    ·rename_i hlen
     have hsz:vals.size=F.params.size+F.nfree:=by
      have:=hr.length;simp only[Array.length_toList]at this;omega
     have hG0:Good (baseOf C) C C F.ntmps (enter args os) { tmps:=vals++Array.replicate (F.ntmps-vals.size) undef,defers:=[] }:=by
      refine⟨?_,hI,⟨fun t=>?_,hGl⟩,by simp;omega,?_,rfl,fun D hD=>by simp at hD,Nat.le_refl _,by simp⟩
      ·rw[hρ]
       congr 1
       funext id;simp only[enter,zipIdx_gT os 0 id,zpa7,Nat.zero_le,and_true,Nat.sub_zero]
      ·have e:=zipIdx_gE args 0 t;simp only[Nat.zero_add]at e;simp only[enter,e];cases ht:args[t]? with
       |none=>simp[RepA]
       |some x=>
        obtain⟨c,hc1,hc2⟩:=hr.get ht;simp only[Option.getD_some]
        have hlt:t<vals.size:=by
         have:=(List.getElem?_eq_some_iff.1 hc1).1;simpa using this
        have:(vals++Array.replicate (F.ntmps-vals.size) undef).getD t undef=c:=by
         rw[Array.getD_eq_getD_getElem?,Array.getElem?_append_left hlt];simp only[Array.getElem?_toList]at hc1;rw[hc1];rfl
        rw[this];exact hc2
      ·have:=Grow.refl C;exact⟨this.F,fun id L _ hb=>this.box id L trivial hb,fun id A _ ha=>this.arr id A trivial ha,fun id b _ hb=>this.blk id b trivial hb⟩
     have fin:∀{x:AEx} {s:St},exec K ac (enter args os)=some (x,s)→(x=.normal∨x=.ret)→retE ⟨F.params.size+F.nfree,res,keep,ac,none⟩ os.length s=some (v,os')→
       Calls P f vals C.w (PostOK C os v os'):=by
      intro x s hex hx hret;refine (callsIn_wide (n:=0)).1 (callsIn_of_wp_marks hF hb trivial (code_sound (rd:=none) hS hac (.inl rfl) hl hex hG0 fun a' C' B' hB hG'=>?_))
      obtain⟨rs,hrs⟩:∃rs,resVs s res=some rs:=by
       unfold retE at hret;simp only at hret;cases e:resVs s res with
       |none=>rw[e]at hret;cases hret
       |some rs=>exact⟨rs,rfl⟩
      have hlv:LeavesInM Fence.wide 0 P F a'.tmps (PostOK C os v os') a'.defers .returning C'.w:=by
       refine leaves_sound B'.ds hG' rfl hB fun C2 B2 hG2 hB2=>?_
       obtain⟨vals',hrun,hrl⟩:=results_run hG2 hres hrs;obtain⟨C'',e1,e2,e3,e4,e5⟩:=ret_sound hG2 hB2 hret hrs hrl;exact⟨_,hrun,_,C'',rfl,e1,e2,e3,e4,e5⟩
      rcases hx with rfl|rfl
      ·exact hlv
      ·exact hlv
     split at h
     ·rename_i s hex;exact fin hex (.inl rfl) h
     ·rename_i s hex;exact fin hex (.inr rfl) h
     ·cases h
    ·cases h
   ·cases hc
  ·cases hc
 ·cases hc
theorem fold_rep {C:Ctx}:∀(ps:List Nat) (avs:List AVal) (vs:List Value) (env:Env) (tm:Array Value),ps.Nodup→(∀p∈ps,p<tm.size)→ps.length=vs.length→RepL C (avs.take ps.length) vs→
  (∀t,RepA C (gE env t) (tm.getD t undef))→
  ((ps.zip vs).foldl (fun (tm:Array Value) (p:Nat×Value)=>tm.setIfInBounds p.1 p.2) tm).size=tm.size∧
  (∀t,t∉ps→((ps.zip vs).foldl (fun (tm:Array Value) (p:Nat×Value)=>tm.setIfInBounds p.1 p.2) tm).getD t undef=tm.getD t undef)∧
  ∀t,RepA C (gE (ps.zip avs++env) t) (((ps.zip vs).foldl (fun (tm:Array Value) (p:Nat×Value)=>tm.setIfInBounds p.1 p.2) tm).getD t undef)
 |[],avs,vs,env,tm,_,_,_,_,h=>⟨rfl,fun _ _=>rfl,h⟩
 |p::ps,avs,[],env,tm,_,_,hl,_,_=>by simp at hl
 |p::ps,[],v::vs,env,tm,_,_,hl,hr,_=>by simp[RepL]at hr
 |p::ps,x::avs,v::vs,env,tm,hn,hp,hl,hr,h=>by
  simp only[List.length_cons,List.take_succ_cons,RepL]at hr;obtain⟨c,cs,e,hx,hr⟩:=hr;simp only[List.cons.injEq]at e;obtain⟨rfl,rfl⟩:=e;rw[List.nodup_cons]at hn;have hlt:p<tm.size:=hp p (by simp)
  have hget:∀t,(tm.setIfInBounds p v).getD t undef=if p=t then v else tm.getD t undef:=by
   intro t;by_cases e:p=t
   ·subst e;simp[Array.getD_eq_getD_getElem?,hlt]
   ·simp[Array.getD_eq_getD_getElem?,Array.getElem?_setIfInBounds_ne e,e]
  have henv:∀t,RepA C (gE ((p,x)::env) t) ((tm.setIfInBounds p v).getD t undef):=by
   intro t;rw[hget];simp only[gE];split
   ·exact hx
   ·exact h t
  obtain⟨h1,h2,h3⟩:=fold_rep ps avs vs ((p,x)::env) (tm.setIfInBounds p v) hn.2 (fun q hq=>by simpa using hp q (by simp[hq])) (by simpa using hl) hr henv;simp only[List.zip_cons_cons,List.foldl_cons];refine⟨by rw[h1];simp,fun t ht=>?_,fun t=>?_⟩
  ·simp only[List.mem_cons,not_or]at ht;rw[h2 t ht.2,hget,if_neg (fun e=>ht.1 e.symm)]
  ·have key:∀(l:Env),p∉l.map (·.1)→gE (l++(p,x)::env) t=gE ((p,x)::(l++env)) t:=by
    intro l
    induction l with
    |nil=>intro _;rfl
    |cons q l ih=>
     intro hq;simp only[List.map_cons,List.mem_cons,not_or]at hq;have:=ih hq.2;simp only[List.cons_append,gE]at this ⊢;rw[this];by_cases e1:q.1=t
     ·by_cases e2:p=t
      ·exact absurd (e2.trans e1.symm) hq.1
      ·simp[e1,e2]
     ·simp[e1]
   have hp2:p∉(ps.zip avs).map (·.1):=fun hm=>by
    obtain⟨q,hq,rfl⟩:=List.mem_map.1 hm;exact hn.1 (List.of_mem_zip hq).1
   have:=h3 t;rw[key _ hp2]at this;simpa[List.cons_append]using this
theorem env_rep {C:Ctx} {tm:Array Value}:∀{env:Env},(∀p∈env,RepA C p.2 (tm.getD p.1 undef))→∀t,RepA C (gE env t) (tm.getD t undef)
 |[],_,t=>by simp[gE,RepA]
 |(x,v)::r,h,t=>by
  simp only[gE];split
  ·rename_i e;subst e;exact h (x,v) (by simp)
  ·exact env_rep (fun p hp=>h p (by simp[hp])) t
theorem yield_sound (hS:zae7 P K) (hL:LoopsOK P) {lps:Nat→Option ALoop} (hlps:∀k lp,lps k=some lp→∃an,cLoop P an k=some lp) {args:List AVal} {os:List TObj} {v:AVal} {os':List TObj} (h:yieldE K lps args os=some (v,os')):YieldOK P args os v os':=by
 intro C vals l hρ hGl hI hr;unfold yieldE yieldG at h;split at h
 ·rename_i j hlast;split at h
  ·rename_i k env hj;split at h
   ·rename_i lp hlp;split at h
    ·rename_i hlen;split at h
     ·rename_i s1 hex1;split at h
      ·rename_i k1 env1 hob1;split at h
       ·rename_i e s2 hex2;split at h
        ·rename_i k2 env2 hob2
         have hρj:C.ρ ((0,j),0,0)=some (.blk (.loop k .ready env)):=by
          rw[hρ];simp[flat,zpa7,hj,flatR]
         have hal:args.length=vals.size+1:=by have:=hr.length;simpa using this.symm
         have hat:blkAt C ((0,j),0,0)=some l:=by
          rw[List.getLast?_eq_getElem?]at hlast;obtain⟨c,hc1,hc2⟩:=hr.get hlast
          have hc1':c=.func (.yield l) #[] #[]:=by
           rw[hal]at hc1;simpa using hc1.symm
          subst hc1';simp only[RepA,if_true]at hc2;obtain⟨b,q1,q2⟩:=hc2;simp only[Value.func.injEq,Fn.yield.injEq,and_true]at q2;rw[q2];exact q1
         have hb:(C.μ ((0,j),0,0)).b=l:=by simpa[blkAt,hρj]using hat
         obtain⟨_,r,l1,l2,l3,l4⟩:=hI.objs _ _ hρj;rw[hb]at l1;obtain⟨an,hcl⟩:=hlps k lp hlp;unfold cLoop at hcl;split at hcl
         ·rename_i F hF;split at hcl
          ·rename_i ps ca cb hrf;split at hcl
           ·rename_i xa xb hca hcb;split at hcl
            ·rename_i hchk;obtain⟨c1,c2,c3,c4⟩:=hchk;simp only[Option.some.injEq]at hcl;subst hcl
             obtain⟨c0,hc0,hc0'⟩:∃c0,F.body=some c0∧rfs c0=[(ps,ca,cb)]:=by
              cases e:F.body with
              |none=>rw[e]at hrf;cases hrf
              |some c0=>rw[e]at hrf;exact⟨c0,rfl,by simpa using hrf⟩
             have hlk:=hL k F c0 _ hF hc0 hc0';rw[hlk]at l2;simp only[Option.some.injEq,Prod.mk.injEq]at l2;obtain⟨p1,p2,p3,p4⟩:=l2;simp only at hlen;have hvs:vals.size=r.params.size:=by rw[←p2];simp at hlen;omega
             have hps:ps.size=r.params.size:=by rw[p2]
             refine⟨r.fn,_,r.assign,r.body,run_yield l1 hvs,roundIn_of_wpIn trivial ?_⟩;rw[←p2,←p3,←p4]
             have htake:RepL C (args.take ps.toList.length) vals.toList:=by
              have h0:vals.toList.length=ps.toList.length:=by simp only[Array.length_toList];omega
              have:=hr.take ps.toList.length;rw[Array.toList_push,List.take_append_of_le_length (Nat.le_of_eq h0.symm),List.take_of_length_le (Nat.le_of_eq h0)]at this;exact this
             obtain⟨f1,f2,f3⟩:=fold_rep ps.toList args vals.toList env r.tmps c1 (fun p hp=>by have:=List.all_eq_true.1 c2 p hp;rw[←p1];simpa using this) (by simp only[Array.length_toList];omega) htake (env_rep l4)
             have hfold:(ps.zip vals).foldl (fun tmps (t,a)=>tmps.setIfInBounds t a) r.tmps=(ps.toList.zip vals.toList).foldl (fun (tm:Array Value) (p:Nat×Value)=>tm.setIfInBounds p.1 p.2) r.tmps:=by
              rw[←Array.foldl_toList,Array.toList_zip]
             rw[hfold]
             have hG0:Good (baseOf C) C C F.ntmps ⟨ps.toList.zip args++env,(enter [] os).objs⟩ { tmps:=(ps.toList.zip vals.toList).foldl (fun (tm:Array Value) (p:Nat×Value)=>tm.setIfInBounds p.1 p.2) r.tmps,defers:=[] }:=by
              refine⟨?_,hI,⟨f3,hGl⟩,by rw[f1,p1],?_,rfl,fun D hD=>by simp at hD,Nat.le_refl _,by simp⟩
              ·rw[hρ]
               congr 1
               funext id;simp only[enter,zipIdx_gT os 0 id,zpa7,Nat.zero_le,and_true,Nat.sub_zero]
              ·have:=Grow.refl C;exact⟨this.F,fun id L _ hb=>this.box id L trivial hb,fun id A _ ha=>this.arr id A trivial ha,fun id b _ hb=>this.blk id b trivial hb⟩
             have hF0:Fence.wide.inRound l=fR (some l):=rfl;rw[hF0];refine code_sound (rd:=some l) hS hca (.inr c3) (by rw[c3];simp) hex1 hG0 fun a1 C1 B1 hB1 hG1=>?_
             have at1:blkAt C1 ((0,j),0,0)=some l:=hG1.ext.blk _ _ rfl hat;have ρ1:C1.ρ ((0,j),0,0)=some (.blk (.loop k1 .ready env1)):=by rw[hG1.ρ];simp only[flat,hob1,flatR,and_self,if_true]
             have b1:(C1.μ ((0,j),0,0)).b=l:=by simpa[blkAt,ρ1]using at1
             obtain⟨_,r1,m1,m2,m3,m4⟩:=hG1.inv.objs _ _ ρ1;rw[b1]at m1;refine⟨_,run_beginRound m1 m3.1,?_⟩
             obtain⟨i2,g2⟩:=hG1.inv.turn ρ1 (.loop { r1 with state:=.busy }) (by simp) (.loop k1 .busy env1) (fun C' e1 e2 hg=>by
              rw[b1]at e1 ⊢;refine⟨{ r1 with state:=.busy },?_,m2,rfl,fun p hp=>(m4 p hp).grow hg⟩;rw[e1];have:=(Array.getElem?_eq_some_iff.1 m1).1;simp[this])
             rw[b1]at i2 g2;generalize hC2:({ C1 with w:={ C1.w with heap:=C1.w.heap.setIfInBounds l (.loop { r1 with state:=.busy }) },ρ:=updL C1.ρ [(((0,j),0,0),.blk (.loop k1 .busy env1))] }:Ctx)=C2 at i2 g2;have hw2:C2.w=C1.w.putObj l (.loop { r1 with state:=.busy }):=by rw[←hC2];rfl
             have hρ2:C2.ρ=flat (gT (pT s1.objs (0,j) (.plain (.blk (.loop k1 .busy env1))))):=by
              have h1:C2.ρ=updL C1.ρ [(((0,j),0,0),.blk (.loop k1 .busy env1))]:=by rw[←hC2]
              rw[h1,hG1.ρ,←flat_put (.inr ⟨_,hob1⟩)]
              congr 1
              funext i;rw[gT_pT]
             have hG2:Good B1 C C2 F.ntmps ⟨s1.env,pT s1.objs (0,j) (.plain (.blk (.loop k1 .busy env1)))⟩ a1:=
              ⟨hρ2,i2,⟨fun t=>(hG1.env.env t).grow g2,hG1.env.glob.mono g2.F⟩,hG1.size,hG1.ext.thenGrow g2,hG1.defers,hG1.ds,hG1.le⟩
             rw[←hw2];refine code_sound (rd:=some l) hS hcb (.inr c4) (by rw[c4];simp) hex2 hG2 fun a3 C3 B3 hB3 hG3=>?_
             have at3:blkAt C3 ((0,j),0,0)=some l:=hG3.ext.blk _ _ rfl hat;have ρ3:C3.ρ ((0,j),0,0)=some (.blk (.loop k2 .busy env2)):=by rw[hG3.ρ];simp only[flat,hob2,flatR,and_self,if_true]
             have b3:(C3.μ ((0,j),0,0)).b=l:=by simpa[blkAt,ρ3]using at3
             obtain⟨_,r3,n1,n2,n3,n4⟩:=hG3.inv.objs _ _ ρ3;rw[b3]at n1
             have fin:∃u w',(Instr.endRound l (codeOf e)).run P C3.w=.ok u w'∧PostOK C os v os' (.returned u) w':=by
              refine⟨_,_,run_endRound (codeOf e) n1,?_⟩;obtain⟨r4,hr4⟩:∃r4:Go.Loop,r4={ r3 with state:=if (codeOf e).isNone then .ready else .done,pending:=codeOf e }:=⟨_,rfl⟩;rw[←hr4]
              obtain⟨i4,g4⟩:=hG3.inv.turn ρ3 (.loop r4) (by simp) (.loop k2 (stOf e) env2) (fun C' e1 e2 hg=>by
               rw[b3]at e1 ⊢;refine⟨r4,?_,by rw[hr4];exact n2,?_,fun p hp=>by rw[hr4];exact (n4 p hp).grow hg⟩
               ·rw[e1];have:=(Array.getElem?_eq_some_iff.1 n1).1;simp[this]
               ·rw[hr4];cases e<;>simp[stOf,codeOf])
              rw[b3]at i4 g4;generalize hC4:({ C3 with w:={ C3.w with heap:=C3.w.heap.setIfInBounds l (.loop r4) },ρ:=updL C3.ρ [(((0,j),0,0),.blk (.loop k2 (stOf e) env2))] }:Ctx)=C4 at i4 g4;have hw4:C4.w=C3.w.putObj l (.loop r4):=by rw[←hC4];rfl
              have hρ4:C4.ρ=flat (gT (pT s2.objs (0,j) (.plain (.blk (.loop k2 (stOf e) env2))))):=by
               have h1:C4.ρ=updL C3.ρ [(((0,j),0,0),.blk (.loop k2 (stOf e) env2))]:=by rw[←hC4]
               rw[h1,hG3.ρ,←flat_put (.inr ⟨_,hob2⟩)]
               congr 1
               funext i;rw[gT_pT]
              have hbool:(stOf e==LSt.ready)=(codeOf e).isNone:=by cases e<;>rfl
              have hG4:Good B3 C C4 1 ⟨[(0,.dat (.bool (stOf e==.ready)))],pT s2.objs (0,j) (.plain (.blk (.loop k2 (stOf e) env2)))⟩ { tmps:=#[.bool (codeOf e).isNone],defers:=a3.defers }:=by
               refine⟨hρ4,i4,⟨fun t=>?_,hG3.env.glob.mono g4.F⟩,rfl,hG3.ext.thenGrow g4,hG3.defers,hG3.ds,hG3.le⟩;simp only[gE];split
               ·rename_i e0;subst e0;rw[hbool];simp[RepA,RepV,RepD,Value.cells,zqc7]
               ·simp[RepA]
              obtain⟨C5,x1,x2,x3,x4,x5⟩:=ret_sound hG4 ((hB1.trans hB3)) h (rs:=[.dat (.bool (stOf e==.ready))]) rfl (vals:=[.bool (codeOf e).isNone]) (by
               simp only[RepL];refine⟨_,_,rfl,?_,rfl⟩;rw[hbool];simp[RepA,RepV,RepD,Value.cells,zqc7])
              rw[←hw4];exact⟨_,C5,rfl,x1,x2,x3,x4,x5⟩
             cases e with
             |normal=>exact fin
             |ret=>exact fin
             |exit id=>exact fin
            ·cases hcl
           ·cases hcl
          ·cases hcl
         ·cases hcl
        ·cases h
       ·cases h
      ·cases h
     ·cases h
    ·cases h
   ·cases h
  ·cases h
 ·cases h
structure TblOK (P:Program) (tbl:Tab):Prop where
 fn:∀f fn,tbl.fn f=some fn→∃an keep g,cFun P an keep f=some g∧fn={ g with split:=fn.split }
 law:zae7 P tbl.law
 lp:∀k lp,tbl.lp k=some lp→∃an,cLoop P an k=some lp
 loops:LoopsOK P
 yid:zkb7 P YID=false
theorem RepL.set {C:Ctx} {x:AVal}:∀{l:List AVal} {cs:List Value} {i:Nat} {c:Value},RepL C l cs→cs[i]?=some c→RepA C x c→RepL C (l.set i x) cs
 |[],cs,i,c,h,hi,hx=>by simp only[RepL]at h;subst h;simp at hi
 |a::r,cs,0,c,h,hi,hx=>by
  simp only[RepL]at h;obtain⟨c',cs',rfl,h1,h2⟩:=h;simp at hi;subst hi;exact⟨_,_,rfl,hx,h2⟩
 |a::r,cs,i+1,c,h,hi,hx=>by
  simp only[RepL]at h;obtain⟨c',cs',rfl,h1,h2⟩:=h;simp at hi;exact⟨_,_,rfl,h1,RepL.set h2 hi hx⟩
theorem callOK_set {f:FuncId} {args:List AVal} {os:List TObj} {r:AVal×List TObj} {v:AVal} {os':List TObj} (hc:CallOK P f args os r.1 r.2) (hr:r=(v,os')∨((r.1=.nils∨r.1=.cap0)∧v=.cap0∧r.2=os')):CallOK P f args os v os':=by
 intro C vals hρ hGl hI hrl;obtain⟨w,os2⟩:=r;rcases hr with hr|⟨hw,rfl,rfl⟩
 ·simp only[Prod.mk.injEq]at hr;obtain⟨rfl,rfl⟩:=hr;exact hc C vals hρ hGl hI hrl
 ·refine (hc C vals hρ hGl hI hrl).mono fun e w' ⟨val,C',q1,q2,q3,q4,q5,q6⟩=>⟨val,C',q1,q2,q3,q4,?_,q6⟩
  rcases hw with hw|hw
  ·simp only at hw;subst hw;simp only[RepA]at q5 ⊢;exact⟨none,q5⟩
  ·simp only at hw;subst hw;exact q5
theorem split_sound (hS:zae7 P K) (hL:LoopsOK P) {an:Ann} {keep:Bool} {f:FuncId} {g fn:AFun} (hc:cFun P an keep f=some g) (he:fn={ g with split:=fn.split }) {args:List AVal} {os:List TObj} {v:AVal} {os':List TObj} (h:runS K fn args os=some (v,os')):
  zkb7 P f=true∧CallOK P f args os v os':=by
 have one:∀{args:List AVal} {r:AVal×List TObj},zed7 K fn args os=some r→zkb7 P f=true∧CallOK P f args os r.1 r.2:=by
  intro args r h;refine fun_sound hS hL hc ?_;rw[he]at h;exact h
 unfold runS at h;split at h
 ·exact one h
 ·rename_i i hs;split at h
  ·rename_i hi;split at h
   ·rename_i r r' h1 h2
    have hboth:(r=(v,os')∨((r.1=.nils∨r.1=.cap0)∧v=.cap0∧r.2=os'))∧(r'=(v,os')∨((r'.1=.nils∨r'.1=.cap0)∧v=.cap0∧r'.2=os')):=by
     split at h
     ·rename_i e;subst e;simp only[Option.some.injEq]at h;exact⟨.inl h,.inl h⟩
     ·unfold joinR at h;split at h
      ·split at h
       ·rename_i e;subst e;simp only[Option.some.injEq,Prod.mk.injEq]at h;obtain⟨rfl,rfl⟩:=h;exact⟨.inr ⟨.inl rfl,rfl,rfl⟩,.inr ⟨.inr rfl,rfl,rfl⟩⟩
       ·cases h
      ·split at h
       ·rename_i e;subst e;simp only[Option.some.injEq,Prod.mk.injEq]at h;obtain⟨rfl,rfl⟩:=h;exact⟨.inr ⟨.inr rfl,rfl,rfl⟩,.inr ⟨.inl rfl,rfl,rfl⟩⟩
       ·cases h
      ·cases h
    ·refine⟨(one h1).1,?_⟩;intro C vals hρ hGl hI hr
     obtain⟨x,hx⟩:∃x,args[i]?=some x:=by
      cases hx:args[i]? with
      |none=>simp[hx,isEmp]at hi
      |some x=>exact⟨x,rfl⟩
     obtain⟨c,hc1,hc2⟩:=hr.get hx;rw[hx]at hi
     obtain⟨a,cap,e1⟩:∃a cap,c=.slice a 0 cap:=by
      unfold isEmp at hi;split at hi
      ·rename_i e;cases e;simp only[RepA]at hc2;have hsl:=hc2.cell rfl;simp only[RepD]at hsl;obtain⟨a,cap,e1,_,_⟩:=hsl;simp only[List.cons.injEq,and_true]at e1;exact⟨a,cap,e1⟩
      ·rename_i e;cases e;simp only[RepA]at hc2;obtain⟨_,a,cap,_,_,e1,_⟩:=hc2;exact⟨a,cap,e1⟩
      ·cases hi
     have hset:∀t,a.isNone=t→RepL C (args.set i (.emp t)) vals.toList:=fun t ht=>hr.set hc1 (by
      simp only[RepA];exact⟨a,cap,e1,ht⟩)
     cases ht:a.isNone with
     |true=>exact (callOK_set (one h1).2 hboth.1 C vals hρ hGl hI (hset true ht))
     |false=>exact (callOK_set (one h2).2 hboth.2 C vals hρ hGl hI (hset false ht))
   ·cases h
  ·exact one h
theorem kn_sound {tbl:Tab} (ht:TblOK P tbl):∀n,zae7 P (Kn tbl n)
 |0=>fun f args os v os' h=>by simp[Kn]at h
 |n+1=>fun f args os v os' h=>by
  simp only[Kn]at h;split at h
  ·rename_i e;exact .inr ⟨e,by rw[e];exact ht.yid,yield_sound (kn_sound ht n) ht.loops ht.lp h⟩
  ·rename_i hne;split at h
   ·rename_i g0 hfn;obtain⟨an,keep,g,hc,he⟩:=ht.fn f _ hfn;exact .inl ⟨hne,split_sound (kn_sound ht n) ht.loops hc he h⟩
   ·exact ht.law f args os v os' h
theorem callT_sound {tbl:Tab} (ht:TblOK P tbl):zae7 P (callT tbl):=by
 intro f args os v os' h;unfold callT at h;split at h
 ·rename_i hex;have:=Classical.choose_spec hex;simp only[Option.some.injEq]at h;rw[h]at this;obtain⟨n,hn⟩:=this;exact kn_sound ht n f args os v os' hn
 ·cases h
end
end Go.Am

namespace Go.Am
variable [Glob]
def OrcLe (K K':Orc):Prop:=∀f args os r,K f args os=some r→K' f args os=some r
theorem callE_orc {K:Orc} {site:Nat} {f:FuncId} {args:List (AVal×Bool)} {sc:Bool} {T:TLook} {out:TOut} (h:callE K site f args sc T=some out):
  ∃args' os r,K f args' os=some r∧∀K':Orc,K' f args' os=some r→callE K' site f args sc T=some out:=by
 have h0:=h;unfold callE at h;split at h
 ·cases h
 ·rename_i vs us hvs;split at h
  ·cases h
  ·rename_i order hcol;split at h
   ·cases h
   ·rename_i os hos;split at h
    ·cases h
    ·rename_i v os' hK;refine⟨_,_,(v,os'),hK,fun K' hK'=>?_⟩;unfold callE;simp only[hvs,hcol,hos,hK'];exact h
theorem opT_orc {K:Orc} {site:Nat} {k:AK} {g:Nat→AVal} {ρ:TLook} {out:TOut} (h:opT K site k g ρ=some out):
  (∀K',opT K' site k g ρ=some out)∨∃f args os r,K f args os=some r∧∀K':Orc,K' f args os=some r→opT K' site k g ρ=some out:=by
 unfold opT at h;split at h
 ·rename_i f args sc;right;obtain⟨a,os,r,h1,h2⟩:=callE_orc h;exact⟨f,a,os,r,h1,fun K' hK'=>h2 K' hK'⟩
 ·rename_i x args sc;split at h
  ·rename_i f caps hf;right;by_cases hbig:BIGF≤f
   ·rw[if_pos hbig]at h;by_cases hne:f-BIGF=YID
    ·rw[if_pos hne]at h;cases h
    ·rw[if_neg hne]at h;obtain⟨a,os,r,h1,h2⟩:=callE_orc h;refine⟨f-BIGF,a,os,r,h1,fun K' hK'=>?_⟩;simp only[opT,hf,if_pos hbig,if_neg hne];exact h2 K' hK'
   ·rw[if_neg hbig]at h;by_cases hne:f=YID
    ·rw[if_pos hne]at h;cases h
    ·rw[if_neg hne]at h;obtain⟨a,os,r,h1,h2⟩:=callE_orc h;refine⟨f,a,os,r,h1,fun K' hK'=>?_⟩;simp only[opT,hf,if_neg hbig,if_neg hne];exact h2 K' hK'
  ·rename_i id hf;right;obtain⟨a,os,r,h1,h2⟩:=callE_orc h;refine⟨YID,a,os,r,h1,fun K' hK'=>?_⟩;simp only[opT,hf];exact h2 K' hK'
  ·cases h
 ·left;intro K';unfold opT;exact h
 ·left;intro K';unfold opT;exact h
 ·left;intro K';unfold opT;exact h
 ·left;intro K';unfold opT;exact h
 ·left;intro K';unfold opT;exact h
 ·left;intro K';unfold opT;exact h
 ·left;intro K';rename_i hn1 hn2 hn3 hn4 hn5 hn6 hn7 hn8;unfold opT;split
  ·exact absurd rfl (hn1 _ _ _)
  ·exact absurd rfl (hn2 _ _ _)
  ·exact absurd rfl (hn3 _)
  ·exact absurd rfl (hn4 _ _ _ _)
  ·exact absurd rfl (hn5 _ _ _)
  ·exact absurd rfl hn6
  ·exact absurd rfl (hn7 _ _ _ _ _)
  ·exact absurd rfl (hn8 _ _ _ _)
  ·exact h
structure Row (R:Nat→Orc) (K:Orc):Prop where
 mono:∀n m,n≤m→OrcLe (R n) (R m)
 lim:∀f args os r,K f args os=some r→∃n,R n f args os=some r
theorem aoE_mono {K K':Orc} (hk:OrcLe K K') {o:AO} {g:Nat→AVal} {ρ:TLook} {out:TOut} (h:aoE K o g ρ=some out):aoE K' o g ρ=some out:=by
 have hop:∀{site k},opT K site k g ρ=some out→opT K' site k g ρ=some out:=by
  intro site k h;rcases opT_orc h with h'|⟨f,args,os,r,h1,h2⟩
  ·exact h' K'
  ·exact h2 K' (hk _ _ _ _ h1)
 unfold aoE at h ⊢;split at h
 ·exact hop h
 ·split at h
  ·split at h
   ·rename_i hb;rw[if_pos hb];exact hop h
   ·rename_i hb;rw[if_neg hb];exact h
  ·exact h
  ·cases h
theorem aoE_lim {R:Nat→Orc} {K:Orc} (hR:Row R K) {o:AO} {g:Nat→AVal} {ρ:TLook} {out:TOut} (h:aoE K o g ρ=some out):∃n,aoE (R n) o g ρ=some out:=by
 have hop:∀{site k},opT K site k g ρ=some out→∃n,opT (R n) site k g ρ=some out:=by
  intro site k h;rcases opT_orc h with h'|⟨f,args,os,r,h1,h2⟩
  ·exact⟨0,h' _⟩
  ·obtain⟨n,hn⟩:=hR.lim _ _ _ _ h1;exact⟨n,h2 _ hn⟩
 unfold aoE at h ⊢;split at h
 ·exact hop h
 ·split at h
  ·split at h
   ·rename_i hb;simp only[if_pos hb];exact hop h
   ·rename_i hb;simp only[if_neg hb];exact⟨0,h⟩
  ·exact⟨0,h⟩
  ·cases h
theorem runOps_mono {K K':Orc} (hk:OrcLe K K'):∀{l:List AO} {i:Nat} {s:St} {lg:Log} {r:St×Log},zhd7 K i l s lg=some r→zhd7 K' i l s lg=some r
 |[],i,s,lg,r,h=>h
 |o::l,i,s,lg,r,h=>by
  simp only[zhd7]at h ⊢;split at h
  ·cases h
  ·rename_i out ho;rw[aoE_mono hk ho];exact runOps_mono hk h
theorem runOps_lim {R:Nat→Orc} {K:Orc} (hR:Row R K):∀{l:List AO} {i:Nat} {s:St} {lg:Log} {r:St×Log},zhd7 K i l s lg=some r→∃n,zhd7 (R n) i l s lg=some r
 |[],i,s,lg,r,h=>⟨0,h⟩
 |o::l,i,s,lg,r,h=>by
  simp only[zhd7]at h ⊢;split at h
  ·cases h
  ·rename_i out ho;obtain⟨n1,h1⟩:=aoE_lim hR ho;obtain⟨n2,h2⟩:=runOps_lim hR h;refine⟨max n1 n2,?_⟩;rw[aoE_mono (hR.mono n1 (max n1 n2) (Nat.le_max_left _ _)) h1];exact runOps_mono (hR.mono n2 (max n1 n2) (Nat.le_max_right _ _)) h2
theorem runReg_mono {K K':Orc} (hk:OrcLe K K') {r:AReg} {s s':St} (h:runReg K r s=some s'):runReg K' r s=some s':=by
 unfold runReg at h ⊢;split at h
 ·cases h
 ·split at h
  ·cases h
  ·rename_i s1 lg hr;rw[runOps_mono hk hr];exact h
theorem runReg_lim {R:Nat→Orc} {K:Orc} (hR:Row R K) {r:AReg} {s s':St} (h:runReg K r s=some s'):∃n,runReg (R n) r s=some s':=by
 unfold runReg at h ⊢;split at h
 ·cases h
 ·split at h
  ·cases h
  ·rename_i s1 lg hr;obtain⟨n,hn⟩:=runOps_lim hR hr;exact⟨n,by simp only[hn];exact h⟩
theorem iter_succ {body:St→Option (AEx×St)}:∀{n:Nat} {s:St} {r:AEx×St},iter body n s=some r→iter body (n+1) s=some r
 |0,s,r,h=>by simp[iter]at h
 |n+1,s,r,h=>by
  rw[iter]at h ⊢;split at h
  ·cases h
  ·exact iter_succ h
  ·exact h
theorem iter_le {body:St→Option (AEx×St)} {n m:Nat} (h:n≤m) {s:St} {r:AEx×St} (hr:iter body n s=some r):iter body m s=some r:=by
 induction h with
 |refl=>exact hr
 |step _ ih=>exact iter_succ ih
theorem loopLim_iff {body:St→Option (AEx×St)} {s:St} {r:AEx×St}:zga7 body s=some r↔∃n,iter body n s=some r:=by
 constructor
 ·intro h;unfold zga7 at h;split at h
  ·rename_i hex;have:=Classical.choose_spec hex;simp only[Option.some.injEq]at h;rw[h]at this;exact this
  ·cases h
 ·rintro⟨n,hn⟩;unfold zga7;have hex:∃r,∃n,iter body n s=some r:=⟨r,n,hn⟩;rw[dif_pos hex];obtain⟨m,hm⟩:=Classical.choose_spec hex;have h1:=iter_le (Nat.le_max_left n m) hn;have h2:=iter_le (Nat.le_max_right n m) hm;rw[h1]at h2;exact h2.symm
theorem iter_mono {b b':St→Option (AEx×St)} (hb:∀s r,b s=some r→b' s=some r):∀{n:Nat} {s:St} {r:AEx×St},iter b n s=some r→iter b' n s=some r
 |0,s,r,h=>by simp[iter]at h
 |n+1,s,r,h=>by
  simp only[iter]at h ⊢;split at h
  ·cases h
  ·rename_i s' h1;rw[hb _ _ h1];exact iter_mono hb h
  ·rename_i p hne h1;rw[hb _ _ h1];simp only[Option.some.injEq]at h;rw[←h];obtain⟨x,s'⟩:=p;cases x with
   |normal=>exact (hne s' rfl).elim
   |exit id=>rfl
   |ret=>rfl
theorem exec_rf {K:Orc} {x:AX} {k site:Nat} {caps:List Nat} {s:St} {r:AEx×St} (h:exec K (.rf x k site caps) s=some r):
  ∃f args os q,K f args os=some q∧∀K':Orc,K' f args os=some q→exec K' (.rf x k site caps) s=some r:=by
 simp only[exec,rfE]at h;split at h
 ·rename_i f vs hf;split at h
  ·cases h
  ·rename_i hne;split at h
   ·cases h
   ·rename_i hlid;split at h
    ·cases h
    ·rename_i v us hcall;obtain⟨a,os,q,h1,h2⟩:=callE_orc hcall;refine⟨f,a,os,q,h1,fun K' hK'=>?_⟩;have:=h2 K' hK';simp only[exec,rfE,hf,if_neg hne,hlid,this];exact h
 ·cases h
theorem zzc7 {K K':Orc} (hk:OrcLe K K'):∀{c:AC} {s:St} {r:AEx×St},exec K c s=some r→exec K' c s=some r:=by
 intro c
 induction c with
 |skip=>intro s r h;exact h
 |reg rg=>
  intro s r h;simp only[exec]at h ⊢;split at h
  ·rename_i s1 h1;rw[runReg_mono hk h1];exact h
  ·cases h
 |seq a b iha ihb=>
  intro s r h;simp only[exec]at h ⊢;split at h
  ·rename_i s1 h1;rw[iha h1];exact ihb h
  ·rename_i hne;rw[iha h];obtain⟨x,s'⟩:=r;cases x with
   |normal=>exact absurd h (hne s')
   |exit id=>rfl
   |ret=>rfl
 |cond x a b iha ihb=>
  intro s r h;simp only[exec]at h ⊢;split at h
  ·rename_i t ht;cases t with
   |true=>exact iha h
   |false=>exact ihb h
  ·cases h
 |block id c ih=>
  intro s r h;simp only[exec]at h ⊢;split at h
  ·rename_i id' s1 h1;rw[ih h1];exact h
  ·rename_i hne;rw[ih h];obtain⟨x,s'⟩:=r;cases x with
   |normal=>rfl
   |exit id'=>exact absurd h (hne id' s')
   |ret=>rfl
 |loop c ih=>
  intro s r h;simp only[exec]at h ⊢;rw[loopLim_iff]at h ⊢;obtain⟨n,hn⟩:=h;exact⟨n,iter_mono (fun s r h=>ih h) hn⟩
 |exit id=>intro s r h;exact h
 |ret=>intro s r h;exact h
 |rf x k site caps=>
  intro s r h;obtain⟨f,args,os,q,h1,h2⟩:=exec_rf h;exact h2 K' (hk _ _ _ _ h1)
theorem exec_lim {R:Nat→Orc} {K:Orc} (hR:Row R K):∀{c:AC} {s:St} {r:AEx×St},exec K c s=some r→∃n,exec (R n) c s=some r:=by
 intro c
 induction c with
 |skip=>intro s r h;exact⟨0,h⟩
 |reg rg=>
  intro s r h;simp only[exec]at h ⊢;split at h
  ·rename_i s1 h1;obtain⟨n,hn⟩:=runReg_lim hR h1;exact⟨n,by rw[hn];exact h⟩
  ·cases h
 |seq a b iha ihb=>
  intro s r h;simp only[exec]at h ⊢;split at h
  ·rename_i s1 h1;obtain⟨n1,e1⟩:=iha h1;obtain⟨n2,e2⟩:=ihb h;refine⟨max n1 n2,?_⟩;rw[zzc7 (hR.mono n1 (max n1 n2) (Nat.le_max_left _ _)) e1];exact zzc7 (hR.mono n2 (max n1 n2) (Nat.le_max_right _ _)) e2
  ·rename_i hne;obtain⟨n1,e1⟩:=iha h;refine⟨n1,?_⟩;rw[e1];obtain⟨x,s'⟩:=r;cases x with
   |normal=>exact absurd h (hne s')
   |exit id=>rfl
   |ret=>rfl
 |cond x a b iha ihb=>
  intro s r h;simp only[exec]at h ⊢;split at h
  ·rename_i t ht;cases t with
   |true=>exact iha h
   |false=>exact ihb h
  ·cases h
 |block id c ih=>
  intro s r h;simp only[exec]at h ⊢;split at h
  ·rename_i id' s1 h1;obtain⟨n1,e1⟩:=ih h1;exact⟨n1,by rw[e1];exact h⟩
  ·rename_i hne;obtain⟨n1,e1⟩:=ih h;refine⟨n1,?_⟩;rw[e1];obtain⟨x,s'⟩:=r;cases x with
   |normal=>rfl
   |exit id'=>exact absurd h (hne id' s')
   |ret=>rfl
 |loop c ih=>
  intro s r h;simp only[exec]at h;rw[loopLim_iff]at h;obtain⟨n,hn⟩:=h
  have:∃m,iter (exec (R m) c) n s=some r:=by
   induction n generalizing s r with
   |zero=>simp[iter]at hn
   |succ n ihn=>
    simp only[iter]at hn ⊢;split at hn
    ·cases hn
    ·rename_i s' h1;obtain⟨m1,e1⟩:=ih h1;obtain⟨m2,e2⟩:=ihn hn;refine⟨max m1 m2,?_⟩;rw[zzc7 (hR.mono m1 (max m1 m2) (Nat.le_max_left _ _)) e1];exact iter_mono (fun s r h=>zzc7 (hR.mono m2 (max m1 m2) (Nat.le_max_right _ _)) h) e2
    ·rename_i p hne h1;obtain⟨m1,e1⟩:=ih h1;refine⟨m1,?_⟩;rw[e1];simp only[Option.some.injEq]at hn;rw[←hn];obtain⟨x,s'⟩:=p;cases x with
     |normal=>exact (hne s' rfl).elim
     |exit id=>rfl
     |ret=>rfl
  obtain⟨m,hm⟩:=this;exact⟨m,by simp only[exec];exact loopLim_iff.2 ⟨n,hm⟩⟩
 |exit id=>intro s r h;exact⟨0,h⟩
 |ret=>intro s r h;exact⟨0,h⟩
 |rf x k site caps=>
  intro s r h;obtain⟨f,args,os,q,h1,h2⟩:=exec_rf h;obtain⟨n,hn⟩:=hR.lim _ _ _ _ h1;exact⟨n,h2 _ hn⟩
theorem zld7 {K K':Orc} (hk:OrcLe K K') {fn:AFun} {args:List AVal} {os:List TObj} {r:AVal×List TObj} (h:zed7 K fn args os=some r):zed7 K' fn args os=some r:=by
 unfold zed7 at h ⊢;split at h
 ·rename_i hl;rw[if_pos hl];split at h
  ·rename_i s hs;rw[zzc7 hk hs];exact h
  ·rename_i s hs;rw[zzc7 hk hs];exact h
  ·cases h
 ·cases h
theorem runFun_lim {R:Nat→Orc} {K:Orc} (hR:Row R K) {fn:AFun} {args:List AVal} {os:List TObj} {r:AVal×List TObj} (h:zed7 K fn args os=some r):∃n,zed7 (R n) fn args os=some r:=by
 unfold zed7 at h ⊢;split at h
 ·rename_i hl;simp only[if_pos hl];split at h
  ·rename_i s hs;obtain⟨n,hn⟩:=exec_lim hR hs;exact⟨n,by rw[hn];exact h⟩
  ·rename_i s hs;obtain⟨n,hn⟩:=exec_lim hR hs;exact⟨n,by rw[hn];exact h⟩
  ·cases h
 ·cases h
theorem runS_mono {K K':Orc} (hk:OrcLe K K') {fn:AFun} {args:List AVal} {os:List TObj} {r:AVal×List TObj} (h:runS K fn args os=some r):runS K' fn args os=some r:=by
 unfold runS at h ⊢;split at h
 ·exact zld7 hk h
 ·split at h
  ·rename_i he;rw[if_pos he];split at h
   ·rename_i r1 r2 h1 h2;rw[zld7 hk h1,zld7 hk h2];exact h
   ·cases h
  ·rename_i he;rw[if_neg he];exact zld7 hk h
theorem runS_lim {R:Nat→Orc} {K:Orc} (hR:Row R K) {fn:AFun} {args:List AVal} {os:List TObj} {r:AVal×List TObj} (h:runS K fn args os=some r):∃n,runS (R n) fn args os=some r:=by
 unfold runS at h ⊢;split at h
 ·exact runFun_lim hR h
 ·split at h
  ·rename_i he;simp only[if_pos he];split at h
   ·rename_i r1 r2 h1 h2;obtain⟨n1,e1⟩:=runFun_lim hR h1;obtain⟨n2,e2⟩:=runFun_lim hR h2;refine⟨max n1 n2,?_⟩;rw[zld7 (hR.mono n1 (max n1 n2) (Nat.le_max_left _ _)) e1,zld7 (hR.mono n2 (max n1 n2) (Nat.le_max_right _ _)) e2];exact h
   ·cases h
  ·rename_i he;simp only[if_neg he];exact runFun_lim hR h
theorem yieldE_mono {K K':Orc} (hk:OrcLe K K') {lps:Nat→Option ALoop} {args:List AVal} {os:List TObj} {r:AVal×List TObj} (h:yieldE K lps args os=some r):yieldE K' lps args os=some r:=by
 unfold yieldE yieldG at h ⊢;split at h
 ·split at h
  ·split at h
   ·split at h
    ·rename_i hl;rw[if_pos hl];split at h
     ·rename_i s1 h1;rw[zzc7 hk h1];simp only;split at h
      ·split at h
       ·rename_i e s2 h2;rw[zzc7 hk h2];exact h
       ·cases h
      ·cases h
     ·cases h
    ·cases h
   ·cases h
  ·cases h
 ·cases h
theorem yieldE_lim {R:Nat→Orc} {K:Orc} (hR:Row R K) {lps:Nat→Option ALoop} {args:List AVal} {os:List TObj} {r:AVal×List TObj} (h:yieldE K lps args os=some r):∃n,yieldE (R n) lps args os=some r:=by
 unfold yieldE yieldG at h;split at h
 ·rename_i j hlast;split at h
  ·rename_i k env hj;split at h
   ·rename_i lp hlp;split at h
    ·rename_i hl;split at h
     ·rename_i s1 h1;split at h
      ·rename_i k1 env1 ho1;split at h
       ·rename_i e s2 h2;obtain⟨n1,e1⟩:=exec_lim hR h1;obtain⟨n2,e2⟩:=exec_lim hR h2;refine⟨max n1 n2,?_⟩;unfold yieldE yieldG;simp only[hlast,hj,hlp,if_pos hl,zzc7 (hR.mono n1 (max n1 n2) (Nat.le_max_left _ _)) e1,ho1,zzc7 (hR.mono n2 (max n1 n2) (Nat.le_max_right _ _)) e2];exact h
       ·cases h
      ·cases h
     ·cases h
    ·cases h
   ·cases h
  ·cases h
 ·cases h
section
variable {tbl:Tab}
theorem kn_succ:∀n,OrcLe (Kn tbl n) (Kn tbl (n+1))
 |0=>fun f args os r h=>by simp[Kn]at h
 |n+1=>fun f args os r h=>by
  rw[Kn]at h ⊢;simp only at h ⊢;split at h
  ·rename_i e;rw[if_pos e];exact yieldE_mono (kn_succ n) h
  ·rename_i hne;rw[if_neg hne];split at h
   ·exact runS_mono (kn_succ n) h
   ·exact h
theorem kn_le {n m:Nat} (h:n≤m):OrcLe (Kn tbl n) (Kn tbl m):=by
 induction h with
 |refl=>exact fun _ _ _ _ h=>h
 |step _ ih=>exact fun f args os r h=>kn_succ _ f args os r (ih f args os r h)
theorem callT_iff {f:FuncId} {args:List AVal} {os:List TObj} {r:AVal×List TObj}:callT tbl f args os=some r↔∃n,Kn tbl n f args os=some r:=by
 constructor
 ·intro h;unfold callT at h;split at h
  ·rename_i hex;have:=Classical.choose_spec hex;simp only[Option.some.injEq]at h;rw[h]at this;exact this
  ·cases h
 ·rintro⟨n,hn⟩;unfold callT;have hex:∃r,∃n,Kn tbl n f args os=some r:=⟨r,n,hn⟩;rw[dif_pos hex];obtain⟨m,hm⟩:=Classical.choose_spec hex;have h1:=kn_le (Nat.le_max_left n m) _ _ _ _ hn;have h2:=kn_le (Nat.le_max_right n m) _ _ _ _ hm;rw[h1]at h2;exact h2.symm
theorem row_kn:Row (Kn tbl) (callT tbl):=⟨fun _ _ h=>kn_le h,fun _ _ _ _ h=>callT_iff.1 h⟩
theorem callT_of {f:FuncId} {fn:AFun} (hf:tbl.fn f=some fn) {args:List AVal} {os:List TObj} {r:AVal×List TObj} (h:runS (callT tbl) fn args os=some r) (hne:f≠YID:=by decide):callT tbl f args os=some r:=by
 obtain⟨n,hn⟩:=runS_lim row_kn h;exact callT_iff.2 ⟨n+1,by rw[Kn];simp only[if_neg hne,hf];exact hn⟩
theorem callT_yield {args:List AVal} {os:List TObj} {r:AVal×List TObj} (h:yieldE (callT tbl) tbl.lp args os=some r):callT tbl YID args os=some r:=by
 obtain⟨n,hn⟩:=yieldE_lim row_kn h;exact callT_iff.2 ⟨n+1,by rw[Kn];simp only[if_true];exact hn⟩
theorem loop_next {body:St→Option (AEx×St)} {s s':St} {r:AEx×St} (h:body s=some (.normal,s')) (hr:zga7 body s'=some r):zga7 body s=some r:=by
 rw[loopLim_iff]at hr ⊢;obtain⟨n,hn⟩:=hr;exact⟨n+1,by simp only[iter,h];exact hn⟩
theorem loop_done {body:St→Option (AEx×St)} {s s':St} {x:AEx} (h:body s=some (x,s')) (hx:x≠.normal):zga7 body s=some (x,s'):=by
 rw[loopLim_iff];refine⟨1,?_⟩;simp only[iter,h];cases x with
 |normal=>exact absurd rfl hx
 |exit id=>rfl
 |ret=>rfl
end
end Go.Am
