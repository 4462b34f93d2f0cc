/- Parts of the proofs of the statement, joined and made short: AmStore. -/
import Derived.Test.YtmoibjjpfemgjaaGreatDoorP7
set_option linter.unusedVariables false
set_option linter.unusedSimpArgs false
set_option linter.unusedSectionVars false
namespace Go.Am
variable [Glob]
theorem splice_get {α:Type} {l v:List α} {off:Nat} (h:off+v.length≤l.length) (j:Nat):
  (splice l off v)[j]?=if j<off then l[j]? else if j<off+v.length then v[j-off]? else l[j]?:=by
 unfold splice;have e1:(l.take off).length=off:=by simp;omega
 by_cases h1:j<off
 ·rw[if_pos h1,List.append_assoc,List.getElem?_append_left (by omega),List.getElem?_take,if_pos h1]
 ·rw[if_neg h1];by_cases h2:j<off+v.length
  ·rw[if_pos h2,List.getElem?_append_left (by simp[e1];omega),List.getElem?_append_right (by omega),e1]
  ·rw[if_neg h2,List.getElem?_append_right (by simp[e1];omega),List.getElem?_drop]
   congr 1
   simp[e1];omega
section
variable {P:Program} {o:Oper} {a:Act} {B:Base} {C:Ctx} {g:Nat→AVal}
theorem setCells_cell {w:World} {b o:Nat} {vs:List Value} (hc:∀j,j<vs.length→∃v,w.cell? ⟨b,o+j,none⟩=some v) (x:Nat):
  (w.setCells b o vs).cell? ⟨b,x,none⟩=if o≤x∧x<o+vs.length then vs[x-o]? else w.cell? ⟨b,x,none⟩:=by
 by_cases h:o≤x∧x<o+vs.length
 ·rw[if_pos h];have hlt:x-o<vs.length:=by omega
  have:=World.cell?_setCells_in b vs o w (fun j hj=>by obtain⟨v,hv⟩:=hc j hj;simp[hv]) (x-o) hlt;rw[show o+(x-o)=x by omega]at this;rw[this,List.getElem?_eq_getElem hlt]
 ·rw[if_neg h];exact World.cell?_setCells_out b vs o w ⟨b,x,none⟩ (fun _ _=>by simp;omega)
theorem rows_flat {sz:Nat} {Q:Nat→AVal→Prop}:∀{es:List (List AVal)},(∀row∈es,row.length=sz)→
  ((∀(i:Nat) (row:List AVal),es[i]?=some row→∀(j:Nat) (a:AVal),row[j]?=some a→Q (i*sz+j) a)↔∀(k:Nat) (a:AVal),es.flatten[k]?=some a→Q k a)
 |[],h=>by simp
 |row::r,h=>by
  have hl:row.length=sz:=h row (by simp);have ih:=rows_flat (Q:=fun k a=>Q (sz+k) a) (es:=r) fun x hx=>h x (by simp[hx])
  constructor
  ·intro hq k a hk;rw[List.flatten_cons]at hk;by_cases hlt:k<sz
   ·rw[List.getElem?_append_left (by omega)]at hk;simpa using hq 0 row rfl k a hk
   ·rw[List.getElem?_append_right (by omega)]at hk
    have:=ih.1 (fun i row' hi j a hj=>by
     have:=hq (i+1) row' (by simpa using hi) j a hj
     rwa [show (i+1)*sz+j=sz+(i*sz+j) by rw[Nat.add_mul];omega]at this) (k-row.length) a hk
    rwa [show sz+(k-row.length)=k by omega]at this
  ·intro hq i row' hi j a hj;cases i with
   |zero=>
    simp at hi;subst hi;have:j<row.length:=(List.getElem?_eq_some_iff.1 hj).1;simpa using hq j a (by rw[List.flatten_cons,List.getElem?_append_left this];exact hj)
   |succ i=>
    have:=ih.2 (fun k a hk=>hq (sz+k) a (by
     rw[List.flatten_cons,List.getElem?_append_right (by omega)]
     rwa [show sz+k-row.length=k by omega])) i row' (by simpa using hi) j a hj
    rwa [show sz+(i*sz+j)=(i+1)*sz+j by rw[Nat.add_mul];omega]at this
theorem zxb7 {sz:Nat}:∀{es:List (List AVal)},(∀row∈es,row.length=sz)→es.flatten.length=es.length*sz
 |[],_=>by simp
 |row::r,h=>by
  rw[List.flatten_cons,List.length_append,h row (by simp),zxb7 fun x hx=>h x (by simp[hx]),List.length_cons,Nat.add_mul];omega
theorem rarr_ok {C:Ctx} {L:Loc} {sz ver:Nat} {es:List (List AVal)}:ObjOK C L (.rarr sz ver es) ↔
  (1≤sz∧(∃cap,L.n=cap*sz∧es.length≤cap)∧(∀row∈es,row.length=sz)∧es.flatten.all AVal.leaf=true∧OwnOK C L∧
   ∀(k:Nat) (a:AVal),es.flatten[k]?=some a→∃v,C.w.cell? ⟨L.b,L.o+k,none⟩=some v∧RepA C a v):=by
 simp only[ObjOK];constructor
 ·rintro⟨h1,h2,h3,h4,h5⟩;refine⟨h1,h2,fun row hr=>(h3 row hr).1,?_,h4,(rows_flat fun row hr=>(h3 row hr).1).1 fun i row hi j a hj=>?_⟩
  ·rw[List.all_eq_true];intro x hx;obtain⟨row,hr,hx⟩:=List.mem_flatten.1 hx;exact List.all_eq_true.1 (h3 row hr).2 x hx
  ·have:=h5 i row hi j a hj
   rwa [Nat.add_assoc]at this
 ·rintro⟨h1,h2,h3,h3',h4,h5⟩;refine⟨h1,h2,fun row hr=>⟨h3 row hr,?_⟩,h4,fun i row hi j a hj=>?_⟩
  ·rw[List.all_eq_true];exact fun x hx=>List.all_eq_true.1 h3' x (List.mem_flatten.2 ⟨row,hr,hx⟩)
  ·have:=(rows_flat h3).2 h5 i row hi j a hj
   rwa [←Nat.add_assoc]at this
theorem chunk_spec {α:Type} {sz:Nat}:∀(n:Nat) {l:List α},l.length=n*sz→(chunk sz n l).length=n∧(chunk sz n l).flatten=l∧∀row∈chunk sz n l,row.length=sz
 |0,l,h=>by
  have:l=[]:=by apply List.eq_nil_of_length_eq_zero;omega
  subst this;simp[chunk]
 |n+1,l,h=>by
  rw[Nat.add_mul]at h;obtain⟨h1,h2,h3⟩:=chunk_spec (sz:=sz) n (l:=l.drop sz) (by simp;omega);refine⟨by simp[chunk,h1],by simp[chunk,h2],fun row hr=>?_⟩;simp only[chunk,List.mem_cons]at hr;rcases hr with rfl|hr
  ·simp;omega
  ·exact h3 row hr
theorem Inv.write (hI:Inv B C) {id:Id} {ob ob':Obj} (h:C.ρ id=some ob) (how:ob.own=true) (off:Nat) (vs:List Value) (hfit:off+vs.length≤(C.μ id).n)
  (hkind:match ob,ob' with
   |.box _,.box _=>True
   |.arr sz v _ es,.arr sz' v' _ es'=>v≤v'∧(v=v'→sz=sz'∧es.length≤es'.length)
   |.rarr sz v es,.rarr sz' v' es'=>v≤v'∧(v=v'→sz=sz'∧es.length≤es'.length)
   |_,_=>False)
  (hobj:∀(C':Ctx),C'.w=C.w.setCells (C.μ id).b ((C.μ id).o+off) vs→C'.F=C.F→Grow C C'→OwnOK C' (C.μ id)→ObjOK C' (C.μ id) ob'):
  let C':Ctx:={ w:=C.w.setCells (C.μ id).b ((C.μ id).o+off) vs,F:=C.F,μ:=C.μ,ρ:=updL C.ρ [(id,ob')] }
  Inv B C'∧Grow C C':=by
 intro C';have hown:=(hI.objs id ob h).ownOK how
 have hg:Grow C C':=by
  refine⟨fun _ _ _ h=>h,fun i L _ hb=>?_,fun i A _ ha=>?_,fun i b _ hb=>?_⟩
  ·by_cases e:id=i
   ·subst e;cases ob<;>simp[boxAt,h]at hb
    case box cs=>cases ob'<;>simp at hkind;simpa[boxAt,C',updL]using hb
   ·simpa[boxAt,C',updL,e]using hb
  ·by_cases e:id=i
   ·subst e;cases ob with
    |box cs=>simp[arrAt,h]at ha
    |arr sz v fz es=>
     simp only[arrAt,h,Option.some.injEq]at ha;subst ha;cases ob' with
     |arr sz' v' fz' es'=>exact⟨⟨v',sz',es'.length,C.μ id⟩,by simp[arrAt,C',updL],hkind.1,fun e=>⟨(hkind.2 e).1.symm,rfl,(hkind.2 e).2⟩⟩
     |box cs=>exact hkind.elim
     |rarr sz' v' es'=>exact hkind.elim
     |blk x=>exact hkind.elim
    |blk x=>simp[Obj.own]at how
    |rarr sz v es=>
     simp only[arrAt,h,Option.some.injEq]at ha;subst ha;cases ob' with
     |rarr sz' v' es'=>exact⟨⟨v',sz',es'.length,C.μ id⟩,by simp[arrAt,C',updL],hkind.1,fun e=>⟨(hkind.2 e).1.symm,rfl,(hkind.2 e).2⟩⟩
     |box cs=>exact hkind.elim
     |arr sz' v' fz' es'=>exact hkind.elim
     |blk x=>exact hkind.elim
   ·exact⟨A,by simpa[arrAt,C',updL,e]using ha,Nat.le_refl _,fun _=>⟨rfl,rfl,Nat.le_refl _⟩⟩
  ·by_cases e:id=i
   ·subst e;cases ob<;>simp[blkAt,h]at hb;simp[Obj.own]at how
   ·simpa[blkAt,C',updL,e]using hb
 refine⟨?_,hg⟩
 let T:Cells:=fun b x=>b=(C.μ id).b∧(C.μ id).o+off≤x∧x<(C.μ id).o+off+vs.length
 refine hI.step id T ?_ ?_ (fun b o v hv=>.inl hv) (fun b o v hv e=>by simp only[C']at hv;rw[e]at hv;cases hv) ?_ hg ?_ ?_ (fun x hx=>by
  have:ob'=.blk x:=by simpa[C',updL]using hx
  subst this;cases ob<;>exact hkind.elim)
 ·rintro b x ⟨rfl,h1,h2⟩;exact⟨ob,h,how,x-(C.μ id).o,by omega,rfl,by omega⟩
 ·exact Kept.setCells _ _ _ _ _ fun j hj=>⟨rfl,by omega,by omega⟩
 ·intro i hi;refine⟨?_,rfl⟩;simp only[C',updL];rw[if_neg (fun e=>hi e.symm)]
 ·intro o' ho';have:o'=ob':=by simpa[C',updL]using ho'.symm
  subst this;refine hobj C' rfl rfl hg ?_;intro j hj;obtain⟨⟨v,hv⟩,hf,hF⟩:=hown j hj;refine⟨?_,?_,hF⟩
  ·have:=setCells_cell (w:=C.w) (b:=(C.μ id).b) (o:=(C.μ id).o+off) (vs:=vs) (fun j hj=>by
    obtain⟨⟨v,hv⟩,_⟩:=hown (off+j) (by omega);exact⟨v,by rwa [←Nat.add_assoc]at hv⟩) ((C.μ id).o+j)
   show ∃v,(C.w.setCells (C.μ id).b ((C.μ id).o+off) vs).cell? ⟨(C.μ id).b,(C.μ id).o+j,none⟩=some v
   rw[this];split
   ·rename_i hc;exact⟨vs[(C.μ id).o+j-((C.μ id).o+off)],List.getElem?_eq_getElem (by omega)⟩
   ·exact⟨v,hv⟩
  ·intro x
   show (C.w.setCells (C.μ id).b ((C.μ id).o+off) vs).frozen? _=false
   rw[World.frozen?_setCells];exact hf x
 ·intro o' ho' _;exact .inr (.inr ⟨ob,h,how,rfl⟩)
theorem znd7 (hI:Inv B C) {id:Id} {ob:Obj} (h:C.ρ id=some ob) (how:ob.own=true) {off:Nat} {vs:List Value} (hfit:off+vs.length≤(C.μ id).n) (x:Nat):
  (C.w.setCells (C.μ id).b ((C.μ id).o+off) vs).cell? ⟨(C.μ id).b,(C.μ id).o+x,none⟩=if off≤x∧x<off+vs.length then vs[x-off]? else C.w.cell? ⟨(C.μ id).b,(C.μ id).o+x,none⟩:=by
 have hown:=(hI.objs id ob h).ownOK how
 rw[setCells_cell (fun j hj=>by
  obtain⟨⟨v,hv⟩,_⟩:=hown (off+j) (by omega);exact⟨v,by rwa [←Nat.add_assoc]at hv⟩)]
 by_cases hc:off≤x∧x<off+vs.length
 ·rw[if_pos hc,if_pos (by omega)]
  congr 1;omega
 ·rw[if_neg hc,if_neg (by omega)]
theorem run_write (hI:Inv B C) {id:Id} {ob:Obj} (h:C.ρ id=some ob) (how:ob.own=true) {off:Nat} {vs:List Value} (hfit:off+vs.length≤(C.μ id).n) (h1:∀v∈vs,v.oneCell'=true):
  (storeCells ⟨(C.μ id).b,(C.μ id).o+off,none⟩ vs).run P C.w=.ok () (C.w.setCells (C.μ id).b ((C.μ id).o+off) vs):=by
 have hown:=(hI.objs id ob h).ownOK how
 have:=run_storeCells_cells (P:=P) (C.μ id).b ((C.μ id).o+off) vs 0 C.w (fun j hj=>by
   obtain⟨⟨v,hv⟩,_⟩:=hown (off+j) (by omega);rw[show (C.μ id).o+off+0+j=(C.μ id).o+(off+j) by omega,hv];rfl)
  (fun j hj=>by
   obtain⟨_,hf,_⟩:=hown (off+j) (by omega);rw[show (C.μ id).o+off+0+j=(C.μ id).o+(off+j) by omega];exact hf _) h1
 simpa using this
theorem zgd7 {ρ:Look} {i:Id}:∀(fs:List Id),i∉fs→∀ρ':Look,updL ρ' (frz ρ fs) i=ρ' i
 |[],_,ρ'=>rfl
 |j::r,h,ρ'=>by
  simp only[List.mem_cons,not_or]at h;simp only[frz];split
  ·simp only[updL];rw[zgd7 r h.2,if_neg (fun e=>h.1 e.symm)]
  ·exact zgd7 r h.2 ρ'
theorem run_storeVar' {t:TypeId} {q:TI} (hq:tI P t=some q) {b x:Nat} {v:Value} (hs:v.cells.size=q.size) {w w':World} (hr:(storeCells ⟨b,x,none⟩ v.cells.toList).run P w=.ok () w'):
  (storeVar t ⟨b,x,none⟩ v).run P w=.ok () w':=by
 unfold storeVar;simp only[Sem.run_bind,run_sizeOf hq,Result.andThen_ok,hs,ne_eq,not_true_eq_false,if_false,hr]
theorem op_st' (hI:Inv B C) {t:TypeId} {x y:Operand} {q:TI} {X Y:AVal} {upd:List (Id×Obj)} (ho:o.op=.store t x y) (hrx:RepA C X (a.eval x)) (hry:RepA C Y (a.eval y)) (hq:tI P t=some q) (hq1:1≤q.size)
  (h:storeE C.ρ q.size X Y=some upd):Does P o a C.w (Owes B C (.tup []) upd):=by
 suffices hs:∃b p C',a.eval x=.pointer (some ⟨b,p,none⟩)∧(a.eval y).cells.size=q.size∧(storeCells ⟨b,p,none⟩ (a.eval y).cells.toList).run P C.w=.ok () C'.w∧C'.ρ=updL C.ρ upd∧Inv B C'∧Grow C C' by
  obtain⟨b,p,C',h1,h2,h3,h4,h5,h6⟩:=hs;refine .inr (.inl ⟨C'.w,?_,C',rfl,h4,h5,h6,?_⟩)
  ·simp only[execOp,ho,Instr.storeAt,h1,Instr.sureAddr,Sem.run_bind,Sem.run_pure,Result.andThen_ok,run_storeVar' hq h2 h3]
  ·simp[RepA,undef,RepL]
 unfold storeE at h;split at h
 ·rename_i id off;split at h
  ·rename_i cs hρ;split at h
   ·rename_i hc;obtain⟨c1,c2,c3⟩:=hc;simp only[Option.some.injEq]at h;subst h;simp only[RepA]at hrx;obtain⟨L,l1,l2⟩:=hrx;have hL:L=C.μ id:=by simpa[boxAt,hρ]using l1.symm
    subst hL;obtain⟨y1,y2⟩:=hry.cells c3;have hlen:(a.eval y).cells.toList.length=q.size:=by rw[y1.length,c1]
    obtain⟨o1,o2,o3,o4⟩:=hI.objs id _ hρ;have hfit:off+(a.eval y).cells.toList.length≤(C.μ id).n:=by rw[hlen,o1];omega
    have hw:=hI.write hρ rfl off (a.eval y).cells.toList (ob':=.box (splice cs off Y.cells)) hfit trivial (fun C' e1 e2 hg ho'=>by
     refine⟨by rw[length_splice _ _ _ (by omega),o1],all_splice o2 c3 off,ho',fun j z hz=>?_⟩;rw[splice_get (by omega)]at hz;rw[e1,znd7 hI hρ rfl hfit];have hyl:Y.cells.length=(a.eval y).cells.toList.length:=y1.length.symm;by_cases h1:j<off
     ·rw[if_pos h1]at hz;rw[if_neg (by omega)];obtain⟨v,hv,hr⟩:=o4 j z hz;exact⟨v,hv,hr.grow hg⟩
     ·rw[if_neg h1]at hz;by_cases h2:j<off+Y.cells.length
      ·rw[if_pos h2]at hz;rw[if_pos (by omega)];obtain⟨v,hv,hr⟩:=y1.get hz;exact⟨v,hv,hr.grow hg⟩
      ·rw[if_neg h2]at hz;rw[if_neg (by omega)];obtain⟨v,hv,hr⟩:=o4 j z hz;exact⟨v,hv,hr.grow hg⟩)
    simp only at hw;exact⟨_,_,_,l2,by simpa using hlen,run_write hI hρ rfl hfit y2,rfl,hw.1,hw.2⟩
   ·cases h
  ·cases h
 ·rename_i id ver i off;split at h
  ·rename_i sz ver' es hρ;split at h
   ·rename_i d fs e hd he;split at h
    ·rename_i hc;obtain⟨rfl,c2,c3,c4,c5⟩:=hc;simp only[Option.some.injEq]at h;subst h;simp only[RepA]at hrx;obtain⟨A,p,a1,a2,a3,a4⟩:=hrx;have hA:A=⟨ver,sz,es.length,C.μ id⟩:=by simpa[arrAt,hρ]using a1.symm
     subst hA;obtain⟨g1,g2⟩:=a4 rfl;subst g2;obtain⟨C1,k1,k2,k3,k4,k5,k6⟩:=hI.freeze fs;have hV:=dec_rep k5.F k6 hd hry;have hlen:(a.eval y).cells.toList.length=q.size:=by rw[hV.1.length,c2]
     have hρ1:C1.ρ id=some (.arr sz ver false es):=by rw[k3,zgd7 fs c4];exact hρ
     obtain⟨o1,⟨cap,o2,o2'⟩,o3,_⟩:=k4.objs id _ hρ1;obtain⟨_,oel⟩:=o3 rfl;have hi:i<es.length:=g1
     have hbound:i*sz+sz≤cap*sz:=by
      calc i*sz+sz=(i+1)*sz:=by rw[Nat.add_mul];omega
       _≤cap*sz:=Nat.mul_le_mul_right _ (by omega)
     have hfit:i*sz+off+(a.eval y).cells.toList.length≤(C1.μ id).n:=by rw[hlen,o2];omega
     have helem:∀F,C1.F.le F→∀c,RepD F e c→RepD F (if e.isAgg then .agg (splice e.cells off d.cells) else d) (splice c off (a.eval y).cells.toList):=by
      intro F hF c hec;have hdF:=RepD.mono hF _ _ hV.1;cases hagg:e.isAgg
      ·simp only[Bool.false_eq_true,if_false];obtain⟨u,rfl,_,_⟩:=hec.leaf hagg
       have hw1:sz=1:=by
        have:=hec.length;simp only[List.length_cons,List.length_nil]at this;omega
       have:off=0∧(a.eval y).cells.toList.length=1:=by omega
       rw[this.1];simp only[splice,List.take_zero,List.nil_append,Nat.zero_add,this.2];simpa using hdF
      ·simp only[if_true,RepD];have q1:=hec.cellsAgg;have q2:=hdF.cellsAgg;unfold splice;rw[q2.length];exact ((q1.take off).append q2).append (q1.drop _)
     have hw:=k4.write hρ1 rfl (i*sz+off) (a.eval y).cells.toList (ob':=.arr sz ver false (es.set i (if e.isAgg then .agg (splice e.cells off d.cells) else d))) hfit
      ⟨Nat.le_refl _,fun _=>⟨rfl,by simp⟩⟩ (fun C' e1 e2 hg ho'=>by
      refine⟨o1,⟨cap,o2,by simpa using o2'⟩,fun _=>⟨ho',fun k z hz=>?_⟩,fun e=>by cases e⟩;have hwc:=znd7 k4 hρ1 rfl hfit;rw[List.getElem?_set]at hz;split at hz
      ·rename_i hik;subst hik;simp only[Option.some.injEq]at hz;subst hz;obtain⟨c,q1,q2,q3⟩:=oel i e he;refine⟨_,?_,helem C'.F (by rw[e2];exact fun _ _ _ h=>h) c (by rw[e2];exact q2),fun j v hj=>?_⟩
       ·rw[length_splice _ _ _ (by omega),q1]
       ·rw[e1,Nat.add_assoc,hwc];rw[splice_get (by omega)]at hj;by_cases h1:j<off
        ·rw[if_pos h1]at hj;rw[if_neg (by omega)];have:=q3 j v hj
         rwa [Nat.add_assoc]at this
        ·rw[if_neg h1]at hj;by_cases h2:j<off+(a.eval y).cells.toList.length
         ·rw[if_pos h2]at hj;rw[if_pos (by omega),←hj]
          congr 1;omega
         ·rw[if_neg h2]at hj;rw[if_neg (by omega)];have:=q3 j v hj
          rwa [Nat.add_assoc]at this
      ·rename_i hik;obtain⟨c,q1,q2,q3⟩:=oel k z hz;refine⟨c,q1,RepD.mono hg.F _ _ q2,fun j v hj=>?_⟩;have hj':j<sz:=by rw[←q1];exact (List.getElem?_eq_some_iff.1 hj).1
       rw[e1,Nat.add_assoc,hwc,if_neg]
       ·have:=q3 j v hj
        rwa [Nat.add_assoc]at this
       ·intro hcon;rcases Nat.lt_or_gt_of_ne hik with hlt|hgt
        ·have:(i+1)*sz≤k*sz:=Nat.mul_le_mul_right _ hlt;rw[Nat.add_mul]at this;omega
        ·have:(k+1)*sz≤i*sz:=Nat.mul_le_mul_right _ hgt;rw[Nat.add_mul]at this;omega)
     simp only at hw;have hrun:=run_write (P:=P) k4 hρ1 rfl hfit (fun v hv=>hV.1.one v hv);refine⟨(C.μ id).b,(C.μ id).o+i*sz+off,_,a3,by simpa using hlen,?_,?_,hw.1,k5.trans hw.2⟩
     ·rw[k2,k1,←Nat.add_assoc]at hrun;rw[hrun];simp only[k1,k2,Nat.add_assoc]
     ·rw[k3,zze7]
    ·cases h
   ·cases h
  ·rename_i sz ver' es hρ;split at h
   ·rename_i row he;split at h
    ·rename_i hc;obtain⟨rfl,c2,c3,c4⟩:=hc;simp only[Option.some.injEq]at h;subst h;simp only[RepA]at hrx;obtain⟨A,p,a1,a2,a3,a4⟩:=hrx;have hA:A=⟨ver,sz,es.length,C.μ id⟩:=by simpa[arrAt,hρ]using a1.symm
     subst hA;obtain⟨g1,g2⟩:=a4 rfl;subst g2;obtain⟨o1,⟨cap,o2,o2'⟩,o3,o4,o5⟩:=hI.objs id _ hρ;have hi:i<es.length:=g1;have hrow:=o3 row (List.mem_of_getElem? he);obtain⟨y1,y2⟩:=hry.cells c4;have hlen:(a.eval y).cells.toList.length=q.size:=by rw[y1.length,c2]
     have hbound:i*sz+sz≤cap*sz:=by
      calc i*sz+sz=(i+1)*sz:=by rw[Nat.add_mul];omega
       _≤cap*sz:=Nat.mul_le_mul_right _ (by omega)
     have hfit:i*sz+off+(a.eval y).cells.toList.length≤(C.μ id).n:=by rw[hlen,o2];omega
     have hw:=hI.write hρ rfl (i*sz+off) (a.eval y).cells.toList (ob':=.rarr sz ver (es.set i (splice row off Y.cells))) hfit
      ⟨Nat.le_refl _,fun _=>⟨rfl,by simp⟩⟩ (fun C' e1 e2 hg ho'=>by
      refine⟨o1,⟨cap,o2,by simpa using o2'⟩,fun r hr=>?_,ho',fun k z hz j x hj=>?_⟩
      ·rcases List.mem_or_eq_of_mem_set hr with hr|hr
       ·exact o3 r hr
       ·subst hr;exact⟨by rw[length_splice _ _ _ (by omega)];exact hrow.1,all_splice hrow.2 c4 off⟩
      ·have hwc:=znd7 hI hρ rfl hfit;have hyl:Y.cells.length=(a.eval y).cells.toList.length:=y1.length.symm;rw[List.getElem?_set]at hz;split at hz
       ·rename_i hik;subst hik;simp only[Option.some.injEq]at hz;subst hz;rw[e1,Nat.add_assoc,hwc];rw[splice_get (by omega)]at hj;by_cases h1:j<off
        ·rw[if_pos h1]at hj;rw[if_neg (by omega)];obtain⟨v,hv,hr⟩:=o5 i row he j x hj;exact⟨v,by rwa [Nat.add_assoc]at hv,hr.grow hg⟩
        ·rw[if_neg h1]at hj;by_cases h2:j<off+Y.cells.length
         ·rw[if_pos h2]at hj;rw[if_pos (by omega)];obtain⟨v,hv,hr⟩:=y1.get hj;exact⟨v,by rw[←hv];congr 1;omega,hr.grow hg⟩
         ·rw[if_neg h2]at hj;rw[if_neg (by omega)];obtain⟨v,hv,hr⟩:=o5 i row he j x hj;exact⟨v,by rwa [Nat.add_assoc]at hv,hr.grow hg⟩
       ·rename_i hik;obtain⟨v,hv,hr⟩:=o5 k z hz j x hj;have hj':j<sz:=by rw[←(o3 z (List.mem_of_getElem? hz)).1];exact (List.getElem?_eq_some_iff.1 hj).1
        refine⟨v,?_,hr.grow hg⟩;rw[e1,Nat.add_assoc,hwc,if_neg]
        ·rwa [Nat.add_assoc]at hv
        ·intro hcon;rcases Nat.lt_or_gt_of_ne hik with hlt|hgt
         ·have:(i+1)*sz≤k*sz:=Nat.mul_le_mul_right _ hlt;rw[Nat.add_mul]at this;omega
         ·have:(k+1)*sz≤i*sz:=Nat.mul_le_mul_right _ hgt;rw[Nat.add_mul]at this;omega)
     simp only at hw;have hrun:=run_write (P:=P) hI hρ rfl hfit y2;refine⟨(C.μ id).b,(C.μ id).o+i*sz+off,_,a3,by simpa using hlen,?_,rfl,hw.1,hw.2⟩;rw[←Nat.add_assoc]at hrun;rw[hrun];simp only[Nat.add_assoc]
    ·cases h
   ·cases h
  ·cases h
 ·cases h
theorem op_st (hI:Inv B C) (hE:RepE C g a) {t:TypeId} {x y:Operand} {q:TI} {ax ay:AX} {upd:List (Id×Obj)} (ho:o.op=.store t x y) (hx:cX x=some ax) (hy:cX y=some ay) (hq:tI P t=some q) (hq1:1≤q.size)
  (h:storeE C.ρ q.size (evX g ax) (evX g ay)=some upd):Does P o a C.w (Owes B C (.tup []) upd):=
 op_st' hI ho (zea7 hE hx) (zea7 hE hy) hq hq1 h
theorem arr_nil (hI:Inv B C) {id:Id} {nv:Nat} (hid:zwa7 C.ρ id=some nv) {ob:Obj} {sz:Nat} (hsz:1≤sz) (hob:ob=.arr sz nv false []∨ob=.rarr sz nv []) (p:Option Addr):
  Owes B C (.rsl id nv sz 0 0) [(id,ob)] (.slice p 0 0) C.w:=by
 obtain⟨n1,n2,n3,n4⟩:=newVer_lt hid
 have hlt:∀A,arrAt C id=some A→A.ver<nv:=by
  intro A hA;simp only[arrAt]at hA;split at hA
  ·rename_i e;simp only[Option.some.injEq]at hA;subst hA;exact n2 _ _ _ _ e
  ·rename_i e;simp only[Option.some.injEq]at hA;subst hA;exact n3 _ _ _ e
  ·cases hA
 obtain⟨h1,h2,h3⟩:=hI.allocO C.w (Kept.refl _ _) id ob ⟨0,0,0⟩ ⟨n1,n4,fun A hA=>by
   rcases hob with rfl|rfl<;>exact hlt A hA⟩ (.inr rfl) (fun x hx=>by rcases hob with rfl|rfl<;>cases hx) (fun C' e1 e2 hg=>by
   have hown:OwnOK C' ⟨0,0,0⟩:=fun j hj=>by simp at hj
   rcases hob with rfl|rfl
   ·exact⟨hsz,⟨0,by simp,by simp⟩,fun _=>⟨hown,by simp⟩,fun e=>by cases e⟩
   ·exact⟨hsz,⟨0,by simp,by simp⟩,by simp,hown,by simp⟩)
 refine⟨{ w:=C.w,F:=C.F,μ:=fun i=>if i=id then ⟨0,0,0⟩ else C.μ i,ρ:=fun i=>if i=id then some ob else C.ρ i },rfl,h3,h1,h2,?_⟩;simp only[RepA];refine⟨⟨nv,sz,0,⟨0,0,0⟩⟩,p,0,?_,Nat.le_refl _,rfl,Nat.le_refl _,by simp,fun _=>⟨rfl,by simp,by simp,by simp⟩⟩;rcases hob with rfl|rfl<;>simp[arrAt]
theorem op_mvNil (hI:Inv B C) {site nv sz:Nat} {ob:Obj} (ho:o.op=.move (.const (.slice none 0 0))∨o.op=.assign (.const (.slice none 0 0))) (hid:zwa7 C.ρ (nid site)=some nv) (hsz:1≤sz)
  (hob:ob=.arr sz nv false []∨ob=.rarr sz nv []):Does P o a C.w (Owes B C (.rsl (nid site) nv sz 0 0) [(nid site,ob)]):=by
 refine .inl ⟨_,_,?_,arr_nil hI hid hsz hob none⟩;rcases ho with ho|ho<;>simp[execOp,ho,Act.eval]
theorem run_app {sT xT e:TypeId} {ty:TypeId} {q:TI} {argTypes:Array TypeId} (h0:argTypes[0]?=some sT) (h1:argTypes[1]?=some xT) (hs:P.underlying sT=some (.slice e))
  (hx:(∃e',P.underlying xT=some (.slice e'))∨P.underlying xT=some .string) (hq:tI P e=some q) (hz:q.zero.isSome=true) {w:World} {base:Option Addr} {len cap b p:Nat} {x:Value} {n:Nat} {old news:List Value}
  (hn:∀w',(Builtin.lenOf x).run P w'=.ok n w') (hf:∀w',(∀ad,w'.cell? ad=w.cell? ad)→(Builtin.firstCells q.size n x).run P w'=.ok news.toArray w')
  (hnl:news.length=n*q.size) (hone:∀v∈news,v.oneCell'=true) (hbase:0<cap→base=some ⟨b,p,none⟩) (hlc:len≤cap)
  (hol:old.length=len*q.size) (hold:∀(j:Nat) (v:Value),old[j]?=some v→w.cell? ⟨b,p+j,none⟩=some v)
  (hown:len+n≤cap→∀j,j<cap*q.size→(∃v,w.cell? ⟨b,p+j,none⟩=some v)∧w.frozen? ⟨b,p+j,none⟩=false)
  (hroom:(len+n)*(q.bytes+1)≤room) (hpos:0<n) (hsz:∀w z,(zeroValue e).run P w=.ok z w→z.cells.size=q.size):
  (len+n≤cap∧base=some ⟨b,p,none⟩∧(Builtin.append_ argTypes ty #[.slice base len cap,x]).run P w=.ok (.slice base (len+n) cap) (w.setCells b (p+len*q.size) news))∨
  (∃(cap':Nat) (cs:Array Value),len+n≤cap'∧cs.size=cap'*q.size∧cs.toList.take ((len+n)*q.size)=old++news∧
   (Builtin.append_ argTypes ty #[.slice base len cap,x]).run P w=.ok (.slice (some ⟨w.heap.size,0,none⟩) (len+n) cap') (w.drew.alloc (.cells cs e))):=by
 obtain⟨i,d,i1,i2,i3,i4,_⟩:=tI_info hq;obtain⟨z,hzv⟩:=tI_zero_some hq hz;have hr:room=1099511627776:=rfl
 have hzeros:∀(w:World),(do pure ((←underlying xT) matches .int _):Sem Bool).run P w=.ok false w:=by
  intro w;rcases hx with⟨e',hx⟩|hx<;>simp only[Sem.run_bind,run_underlying hx,Result.andThen_ok]<;>rfl
 by_cases hfit:len+n≤cap
 ·left;have hb:=hbase (by omega);refine⟨hfit,hb,?_⟩
  have hst:=run_storeCells_cells (P:=P) b (p+len*q.size) news 0 w (fun j hj=>by
    have:len*q.size+j<cap*q.size:=by
     have:(len+n)*q.size≤cap*q.size:=Nat.mul_le_mul_right _ hfit;rw[Nat.add_mul]at this;omega
    obtain⟨⟨v,hv⟩,_⟩:=hown hfit (len*q.size+j) this;rw[show p+len*q.size+0+j=p+(len*q.size+j) by omega,hv];rfl)
   (fun j hj=>by
    have:len*q.size+j<cap*q.size:=by
     have:(len+n)*q.size≤cap*q.size:=Nat.mul_le_mul_right _ hfit;rw[Nat.add_mul]at this;omega
    obtain⟨_,hfz⟩:=hown hfit (len*q.size+j) this
    rwa [show p+len*q.size+0+j=p+(len*q.size+j) by omega]) hone
  simp only[Nat.add_zero]at hst;have hst':(storeCells ((⟨b,p,none⟩:Addr).add (len*q.size)) news).run P w=.ok () (w.setCells b (p+len*q.size) news):=by rw[Addr.add_mk];exact hst
  unfold Builtin.append_;simp only[h0,h1,List.getElem?_toArray,List.getElem?_cons_zero,List.getElem?_cons_succ];rcases hx with⟨e',hx⟩|hx <;>
  simp only[Sem.run_bind,run_underlying hs,Result.andThen_ok,run_sizeOf hq,run_underlying hx,Sem.run_pure,Bool.false_eq_true,if_false,hn,hfit,if_true,Bool.not_false,hf w (fun _=>rfl),hb,hst']
 ·right
  have hneed:¬(((len+n:Nat):Int)>IntKind.i64.max∧(False∨i.bytes=0)):=by
   intro ⟨h,_⟩;have:IntKind.i64.max=9223372036854775807:=by decide
   have:len+n≤(len+n)*(q.bytes+1):=Nat.le_mul_of_pos_right _ (by omega);omega
  have hmul:(len+n)*q.bytes≤(len+n)*(q.bytes+1):=Nat.mul_le_mul_left _ (by omega)
  have hgrow:¬(Builtin.nextslicecap (len+n) cap*i.bytes>2 ^ 48):=by
   have:=growslice_fits (need:=len+n) (old:=cap) (bytes:=i.bytes) (by omega) (by rw[←i4];omega);omega
  refine⟨grownCap w (len+n) cap e,old.toArray++news.toArray++Builtin.zeroCells z.cells (grownCap w (len+n) cap e-(len+n)),grownCap_ge w _ _ _,?_,?_,?_⟩
  ·have hge:=grownCap_ge w (len+n) cap e;simp only[Array.size_append,List.size_toArray,size_zeroCells,hol,hnl,hsz _ _ (hzv w),←Nat.add_mul]
   congr 1;omega
  ·simp only[Array.toList_append,List.append_assoc];rw[←List.append_assoc,List.take_append_of_le_length (by simp only[List.length_append,hol,hnl,Nat.add_mul];omega)];rw[List.take_of_length_le (by simp only[List.length_append,hol,hnl,Nat.add_mul];omega)]
  ·have hfo:∀w',(∀ad,w'.cell? ad=w.cell? ad)→(Builtin.firstCells q.size len (.slice base len cap)).run P w'=.ok old.toArray w':=by
    intro w' hw';refine zlb7 hol ?_;intro hp
    have:0<cap:=by
     rcases Nat.eq_zero_or_pos len with h|h
     ·rw[h]at hol;simp at hol;simp[hol]at hp
     ·omega
    exact⟨b,p,hbase this,fun j v hj=>by rw[hw'];exact hold j v hj⟩
   have hch:(choose (.appendCap (len+n) cap e)).run P w=.ok (grownCap w (len+n) cap e) w.drew:=by
    rw[run_choose];rfl
   unfold Builtin.append_;simp only[h0,h1,List.getElem?_toArray,List.getElem?_cons_zero,List.getElem?_cons_succ];rcases hx with⟨e',hx⟩|hx <;>
   simp only[Sem.run_bind,run_underlying hs,Result.andThen_ok,run_sizeOf hq,run_underlying hx,Sem.run_pure,Bool.false_eq_true,if_false,hn,hfit,run_typeInfo i1,hneed,hgrow,hch,run_askRoom,
    hfo w.drew (fun _=>rfl),Bool.not_false,if_true,hf w.drew (fun _=>rfl),hzv,newRow,run_newObj]<;>rfl
theorem zhe7 {e:TypeId} {q:TI} (hq:tI P e=some q) (hok:∃l,q.zero=some l∧l.length=q.size):∀w z,(zeroValue e).run P w=.ok z w→z.cells.size=q.size:=by
 obtain⟨l,hz,hl⟩:=hok;obtain⟨v,hv,hc⟩:=tI_zero hq hz;intro w z hzv;rw[hv]at hzv;cases hzv;have:=zic7 hc;have:=congrArg List.length this;simp at this;omega
theorem op_app (hI:Inv B C) (hE:RepE C g a) {c:Call} {x y:Operand} {sT xT e:TypeId} {q:TI} {ax ay:AX} {id:Id} {ver len:Nat} {es0 ds:List Dat} (ho:o.op=.call c) (hc:c.callee=.builtin .append) (ha:c.args=#[x,y])
  (h0:c.argTypes[0]?=some sT) (h1:c.argTypes[1]?=some xT) (hs:P.underlying sT=some (.slice e)) (hxt:(∃e',P.underlying xT=some (.slice e'))∨P.underlying xT=some .string) (hq:tI P e=some q) (hok:∃l,q.zero=some l∧l.length=q.size)
  (hx:cX x=some ax) (hy:cX y=some ay) (hX:evX g ax=.rsl id ver q.size 0 len) (hρ:C.ρ id=some (.arr q.size ver false es0)) (hY:srcOf C.ρ q.size (evX g ay)=some ds) (hlen0:len≤es0.length)
  (hroom:(len+ds.length)*(q.bytes+1)≤room):
  Does P o a C.w (Owes B C (if ds.length=0 then .rsl id ver q.size 0 len else .rsl id (ver+1) q.size 0 (len+ds.length)) (if ds.length=0 then [] else [(id,.arr q.size (ver+1) false (preN len es0++ds))])):=by
 have hrx:=zea7 hE hx;rw[hX]at hrx;obtain⟨o1,⟨cp,o2,o2'⟩,o3,_⟩:=hI.objs id _ hρ;obtain⟨oown,oel0⟩:=o3 rfl;rw[preN_take];have hlen:len=(es0.take len).length:=by simp[List.length_take];omega
 have oel:=fun (i:Nat) (d:Dat) (hd:(es0.take len)[i]?=some d)=>oel0 i d (by
  rw[List.getElem?_take]at hd;split at hd
  ·exact hd
  ·cases hd)
 have hA0:(es0.take len).length≤es0.length:=by simp[List.length_take];omega
 generalize es0.take len=es at hlen oel hA0 ⊢;obtain⟨cs,c1,c2,c3⟩:=zaf7 (P:=P) hI o1 hY (zea7 hE hy);have hrx':=hrx;simp only[RepA]at hrx;obtain⟨A,p,cap,a1,a2,a3,a4,a5,a6⟩:=hrx;have hA:A=⟨ver,q.size,es0.length,C.μ id⟩:=by simpa[arrAt,hρ]using a1.symm
 subst hA;obtain⟨g1,g2,g3,g4⟩:=a6 rfl;simp only[Nat.zero_add,Nat.zero_mul,Nat.add_zero]at g3 g4;have hargs:c.args.map a.eval=#[a.eval x,a.eval y]:=by rw[ha];simp
 have hexec:∀v w',(Builtin.append_ c.argTypes o.type #[a.eval x,a.eval y]).run P C.w=.ok v w'→(execOp a.eval o).run P C.w=.ok (.value v) w':=by
  intro v w' h;simp only[execOp,ho,resolve,hc,Sem.run_bind,Sem.run_pure,Result.andThen_ok,invoke,builtin,hargs,h]
 have hzs:=zhe7 hq hok;have hz:q.zero.isSome=true:=by obtain⟨l,hl,_⟩:=hok;simp[hl]
 by_cases hd:ds.length=0
 ·simp only[hd,if_true];have hds:ds=[]:=List.eq_nil_of_length_eq_zero hd;subst hds;refine .inl ⟨a.eval x,C.w,hexec _ _ ?_,C,rfl,rfl,hI,Grow.refl C,hrx'⟩
  have hxz:(do pure ((←underlying xT) matches .int _):Sem Bool).run P C.w=.ok false C.w:=by
   rcases hxt with⟨e',hxt⟩|hxt<;>simp only[Sem.run_bind,run_underlying hxt,Result.andThen_ok]<;>rfl
  have hf:=c3 0 (Nat.zero_le _) C.w (fun _=>rfl);simp only[Nat.zero_mul,List.take_zero]at hf;rw[a3];unfold Builtin.append_;simp only[h0,h1,List.getElem?_toArray,List.getElem?_cons_zero,List.getElem?_cons_succ];rcases hxt with⟨e',hxt⟩|hxt <;>
  simp only[Sem.run_bind,run_underlying hs,Result.andThen_ok,run_sizeOf hq,run_underlying hxt,Sem.run_pure,Bool.false_eq_true,if_false,c2,a4,if_true,Bool.not_false,hf,List.length_nil,Nat.add_zero] <;>
  (cases p<;>simp only[storeCells,Sem.run_pure,Sem.run_bind,Result.andThen_ok])
 ·simp only[hd,if_false];obtain⟨old,f1,f2⟩:=flat_of (F:=C.F) (sz:=q.size) (fun j=>C.w.cell? ⟨(C.μ id).b,j,none⟩) (ds:=es) (C.μ id).o (fun i d hd=>oel i d hd);have hcl:=c1.length;have hn:c1=c1:=rfl
  have happ:=run_app (P:=P) (ty:=o.type) (w:=C.w) (base:=p) (len:=len) (cap:=cap) (b:=(C.μ id).b) (p:=(C.μ id).o) (x:=a.eval y) (n:=ds.length) (old:=old) (news:=cs) h0 h1 hs hxt hq hz c2
   (fun w' hw'=>by
    have:=c3 ds.length (Nat.le_refl _) w' hw'
    rwa [List.take_of_length_le (by rw[hcl];exact Nat.le_refl _)]at this) hcl c1.one g4 a4
   (by rw[f1.length,hlen]) f2 (fun _ j hj=>by
    rw[←g3]at hj;exact⟨(oown j hj).1,(oown j hj).2.1 _⟩) hroom (by omega) hzs
  rcases happ with⟨r1,r2,r3⟩|⟨cap',out,r1,r2,r3,r4⟩
  ·have hfit:len*q.size+cs.length≤(C.μ id).n:=by
    rw[g3,hcl,←Nat.add_mul];exact Nat.mul_le_mul_right _ r1
   have hw:=hI.write hρ rfl (len*q.size) cs (ob':=.arr q.size (ver+1) false (es++ds)) hfit ⟨Nat.le_succ _,fun e=>by omega⟩ (fun C' e1 e2 hg ho'=>by
    refine⟨o1,⟨cap,g3,by simp;omega⟩,fun _=>⟨ho',fun i d hd=>?_⟩,fun e=>by cases e⟩;have hwc:=znd7 hI hρ rfl hfit;rcases Nat.lt_or_ge i es.length with hlt|hge
    ·rw[List.getElem?_append_left hlt]at hd;obtain⟨u,q1,q2,q3⟩:=oel i d hd;refine⟨u,q1,RepD.mono hg.F _ _ q2,fun j v hj=>?_⟩;have hj':j<q.size:=by rw[←q1];exact (List.getElem?_eq_some_iff.1 hj).1
     have:i*q.size+j<len*q.size:=by
      have:(i+1)*q.size≤len*q.size:=Nat.mul_le_mul_right _ (by omega);rw[Nat.add_mul]at this;omega
     rw[e1,Nat.add_assoc,hwc,if_neg (by omega),←Nat.add_assoc];exact q3 j v hj
    ·rw[List.getElem?_append_right hge]at hd;obtain⟨u,q1,q2,q3⟩:=c1.get hd;refine⟨u,q1,RepD.mono hg.F _ _ q2,fun j v hj=>?_⟩;have hj':j<q.size:=by rw[←q1];exact (List.getElem?_eq_some_iff.1 hj).1
     have hge':len*q.size+(i-es.length)*q.size=i*q.size:=by rw[←Nat.add_mul];congr 1;omega
     have hlt':=(List.getElem?_eq_some_iff.1 (q3 j v hj)).1;rw[e1,Nat.add_assoc,hwc,if_pos (by omega),←q3 j v hj]
     congr 1;omega)
   simp only at hw;refine .inl ⟨_,_,hexec _ _ (by rw[a3];exact r3),_,rfl,rfl,hw.1,hw.2,?_⟩;simp only[RepA];refine⟨⟨ver+1,q.size,(es++ds).length,C.μ id⟩,p,cap,by simp[arrAt,updL],Nat.le_refl _,rfl,r1,a5,fun _=>⟨rfl,by simp;omega,by simpa using g3,by simpa using g4⟩⟩
  ·obtain⟨I1,G1⟩:=hI.drew;have hnv:zwa7 C.ρ id=some (ver+1):=by simp[zwa7,hρ]
   have hnew:=arr_new I1 (id:=id) (nv:=ver+1) hnv o1 (ds:=es++ds) (cs:=out) cap' ⟨out,by
    rw[List.length_append,←hlen,r3];exact f1.append c1,r2,rfl⟩ (by simp;omega) e
   obtain⟨C',w1,w2,w3,w4,w5⟩:=hnew;refine .inl ⟨_,_,hexec _ _ (by rw[a3];exact r4),C',w1,w2,w3,G1.trans w4,?_⟩;have hl2:(es++ds).length=len+ds.length:=by simp[hlen]
   rw[hl2]at w5;exact w5
theorem op_appNil (hI:Inv B C) (hE:RepE C g a) {c:Call} {x y:Operand} {sT xT e:TypeId} {q:TI} {ax ay:AX} {site nv:Nat} {ds:List Dat} (ho:o.op=.call c) (hc:c.callee=.builtin .append) (ha:c.args=#[x,y])
  (h0:c.argTypes[0]?=some sT) (h1:c.argTypes[1]?=some xT) (hs:P.underlying sT=some (.slice e)) (hxt:(∃e',P.underlying xT=some (.slice e'))∨P.underlying xT=some .string) (hq:tI P e=some q) (hok:∃l,q.zero=some l∧l.length=q.size) (hsz:1≤q.size)
  (hx:cX x=some ax) (hy:cX y=some ay) (hX:evX g ax=.nils) (hY:srcOf C.ρ q.size (evX g ay)=some ds) (hid:ds.length≠0→zwa7 C.ρ (nid site)=some nv)
  (hroom:ds.length≠0→ds.length*(q.bytes+1)≤room):
  Does P o a C.w (if ds.length=0 then Owes B C .nils [] else Owes B C (.rsl (nid site) nv q.size 0 ds.length) [(nid site,.arr q.size nv false ds)]):=by
 have hrx:=zea7 hE hx;rw[hX]at hrx;simp only[RepA]at hrx;obtain⟨cs,c1,c2,c3⟩:=zaf7 (P:=P) hI hsz hY (zea7 hE hy);have hargs:c.args.map a.eval=#[a.eval x,a.eval y]:=by rw[ha];simp
 have hexec:∀v w',(Builtin.append_ c.argTypes o.type #[a.eval x,a.eval y]).run P C.w=.ok v w'→(execOp a.eval o).run P C.w=.ok (.value v) w':=by
  intro v w' h;simp only[execOp,ho,resolve,hc,Sem.run_bind,Sem.run_pure,Result.andThen_ok,invoke,builtin,hargs,h]
 have hzs:=zhe7 hq hok;have hz:q.zero.isSome=true:=by obtain⟨l,hl,_⟩:=hok;simp[hl]
 have hcl:=c1.length;by_cases hd:ds.length=0
 ·have hds:ds=[]:=List.eq_nil_of_length_eq_zero hd;subst hds;simp only[List.length_nil,if_true];refine .inl ⟨a.eval x,C.w,hexec _ _ ?_,C,rfl,rfl,hI,Grow.refl C,by rw[hrx];simp only[RepA]⟩;have hf:=c3 0 (Nat.zero_le _) C.w (fun _=>rfl);simp only[Nat.zero_mul,List.take_zero]at hf;rw[hrx];unfold Builtin.append_;simp only[h0,h1,List.getElem?_toArray,List.getElem?_cons_zero,List.getElem?_cons_succ];rcases hxt with⟨e',hxt⟩|hxt <;>
  simp only[Sem.run_bind,run_underlying hs,Result.andThen_ok,run_sizeOf hq,run_underlying hxt,Sem.run_pure,Bool.false_eq_true,if_false,c2,Nat.le_refl,if_true,Bool.not_false,hf,List.length_nil,Nat.add_zero] <;>
  simp only[storeCells,Sem.run_pure,Sem.run_bind,Result.andThen_ok]
 ·rw[if_neg hd];have hid:=hid hd;have hroom:=hroom hd
  have happ:=run_app (P:=P) (ty:=o.type) (w:=C.w) (base:=none) (len:=0) (cap:=0) (b:=0) (p:=0) (x:=a.eval y) (n:=ds.length) (old:=[]) (news:=cs) h0 h1 hs hxt hq hz c2
   (fun w' hw'=>by
    have:=c3 ds.length (Nat.le_refl _) w' hw'
    rwa [List.take_of_length_le (by rw[hcl];exact Nat.le_refl _)]at this) hcl c1.one (by simp) (Nat.le_refl _) (by simp) (by simp) (by simp) (by simpa using hroom) (by omega) hzs
  rcases happ with⟨r1,r2,r3⟩|⟨cap',out,r1,r2,r3,r4⟩
  ·omega
  ·obtain⟨I1,G1⟩:=hI.drew
   have hnew:=arr_new I1 (id:=nid site) (nv:=nv) hid hsz (ds:=ds) (cs:=out) cap' ⟨out,by
    simp only[Nat.zero_add,List.nil_append]at r3;rw[r3];exact c1,r2,rfl⟩ (by omega) e
   obtain⟨C',w1,w2,w3,w4,w5⟩:=hnew;simp only[Nat.zero_add]at r4;exact .inl ⟨_,_,hexec _ _ (by rw[hrx];exact r4),C',w1,w2,w3,G1.trans w4,w5⟩
theorem op_appCap (hI:Inv B C) (hE:RepE C g a) {c:Call} {x y:Operand} {sT xT e:TypeId} {q:TI} {ax ay:AX} {site nv:Nat} {ds:List Dat} (ho:o.op=.call c) (hc:c.callee=.builtin .append) (ha:c.args=#[x,y])
  (h0:c.argTypes[0]?=some sT) (h1:c.argTypes[1]?=some xT) (hs:P.underlying sT=some (.slice e)) (hxt:(∃e',P.underlying xT=some (.slice e'))∨P.underlying xT=some .string) (hq:tI P e=some q) (hok:∃l,q.zero=some l∧l.length=q.size) (hq1:1≤q.size)
  (hx:cX x=some ax) (hy:cX y=some ay) (hX:evX g ax=.cap0) (hY:srcOf C.ρ q.size (evX g ay)=some ds) (hid:ds.length≠0→zwa7 C.ρ (nid site)=some nv)
  (hroom:ds.length≠0→ds.length*(q.bytes+1)≤room):
  Does P o a C.w (if ds.length=0 then Owes B C .cap0 [] else Owes B C (.rsl (nid site) nv q.size 0 ds.length) [(nid site,.arr q.size nv false ds)]):=by
 have hrx:=zea7 hE hx;rw[hX]at hrx;simp only[RepA]at hrx;obtain⟨p,hrx⟩:=hrx;obtain⟨cs,c1,c2,c3⟩:=zaf7 (P:=P) hI hq1 hY (zea7 hE hy);have hargs:c.args.map a.eval=#[a.eval x,a.eval y]:=by rw[ha];simp
 have hexec:∀v w',(Builtin.append_ c.argTypes o.type #[a.eval x,a.eval y]).run P C.w=.ok v w'→(execOp a.eval o).run P C.w=.ok (.value v) w':=by
  intro v w' h;simp only[execOp,ho,resolve,hc,Sem.run_bind,Sem.run_pure,Result.andThen_ok,invoke,builtin,hargs,h]
 have hzs:=zhe7 hq hok;have hz:q.zero.isSome=true:=by obtain⟨l,hl,_⟩:=hok;simp[hl]
 have hcl:=c1.length;by_cases hd:ds.length=0
 ·have hds:ds=[]:=List.eq_nil_of_length_eq_zero hd;subst hds;simp only[List.length_nil,if_true];refine .inl ⟨a.eval x,C.w,hexec _ _ ?_,C,rfl,rfl,hI,Grow.refl C,by rw[hrx];simp only[RepA];exact⟨p,rfl⟩⟩;have hf:=c3 0 (Nat.zero_le _) C.w (fun _=>rfl);simp only[Nat.zero_mul,List.take_zero]at hf;rw[hrx];unfold Builtin.append_;simp only[h0,h1,List.getElem?_toArray,List.getElem?_cons_zero,List.getElem?_cons_succ];rcases hxt with⟨e',hxt⟩|hxt <;>
  simp only[Sem.run_bind,run_underlying hs,Result.andThen_ok,run_sizeOf hq,run_underlying hxt,Sem.run_pure,Bool.false_eq_true,if_false,c2,Nat.le_refl,if_true,Bool.not_false,hf,List.length_nil,Nat.add_zero] <;>
  (cases p<;>simp only[storeCells,Sem.run_pure,Sem.run_bind,Result.andThen_ok])
 ·rw[if_neg hd];have hid:=hid hd;have hroom:=hroom hd
  have happ:=run_app (P:=P) (ty:=o.type) (w:=C.w) (base:=p) (len:=0) (cap:=0) (b:=0) (p:=0) (x:=a.eval y) (n:=ds.length) (old:=[]) (news:=cs) h0 h1 hs hxt hq hz c2
   (fun w' hw'=>by
    have:=c3 ds.length (Nat.le_refl _) w' hw'
    rwa [List.take_of_length_le (by rw[hcl];exact Nat.le_refl _)]at this) hcl c1.one (by simp) (Nat.le_refl _) (by simp) (by simp) (by simp) (by simpa using hroom) (by omega) hzs
  rcases happ with⟨r1,r2,r3⟩|⟨cap',out,r1,r2,r3,r4⟩
  ·omega
  ·obtain⟨I1,G1⟩:=hI.drew
   have hnew:=arr_new I1 (id:=nid site) (nv:=nv) hid hq1 (ds:=ds) (cs:=out) cap' ⟨out,by
    simp only[Nat.zero_add,List.nil_append]at r3;rw[r3];exact c1,r2,rfl⟩ (by omega) e
   obtain⟨C',w1,w2,w3,w4,w5⟩:=hnew;simp only[Nat.zero_add]at r4;exact .inl ⟨_,_,hexec _ _ (by rw[hrx];exact r4),C',w1,w2,w3,G1.trans w4,w5⟩
theorem op_appFull (hI:Inv B C) (hE:RepE C g a) {c:Call} {x y:Operand} {sT xT e:TypeId} {q:TI} {ax ay:AX} {site nv:Nat} {l ds:List Dat} (ho:o.op=.call c) (hc:c.callee=.builtin .append) (ha:c.args=#[x,y])
  (h0:c.argTypes[0]?=some sT) (h1:c.argTypes[1]?=some xT) (hs:P.underlying sT=some (.slice e)) (hxt:(∃e',P.underlying xT=some (.slice e'))∨P.underlying xT=some .string) (hq:tI P e=some q) (hok:∃l,q.zero=some l∧l.length=q.size) (hq1:1≤q.size)
  (hx:cX x=some ax) (hy:cX y=some ay) (hX:evX g ax=.fsl l) (hY:srcOf C.ρ q.size (evX g ay)=some ds) (hid:zwa7 C.ρ (nid site)=some nv) (hd:ds.length≠0) (hw:(l.all fun d=>d.width==q.size)=true)
  (hroom:(l.length+ds.length)*(q.bytes+1)≤room):
  Does P o a C.w (Owes B C (.rsl (nid site) nv q.size 0 (l.length+ds.length)) [(nid site,.arr q.size nv false (l++ds))]):=by
 have hrx:=zea7 hE hx;rw[hX]at hrx;simp only[RepA]at hrx;obtain⟨⟨p0,hrx⟩,hrv⟩:=hrx;obtain⟨p,cap,old,f0,f1,f2⟩:=elemsOf_rep (sz:=q.size) (x:=.dat (.sl l)) (ds:=l) (val:=a.eval x) hI (by simp only[elemsOf,hw,if_true]) (by simp only[RepA];exact hrv);obtain⟨cs,c1,c2,c3⟩:=zaf7 (P:=P) hI hq1 hY (zea7 hE hy);rw[hrx]at f0;simp only[Value.slice.injEq]at f0;obtain⟨rfl,-,rfl⟩:=f0;have hargs:c.args.map a.eval=#[a.eval x,a.eval y]:=by rw[ha];simp
 have hexec:∀v w',(Builtin.append_ c.argTypes o.type #[a.eval x,a.eval y]).run P C.w=.ok v w'→(execOp a.eval o).run P C.w=.ok (.value v) w':=by
  intro v w' h;simp only[execOp,ho,resolve,hc,Sem.run_bind,Sem.run_pure,Result.andThen_ok,invoke,builtin,hargs,h]
 have hzs:=zhe7 hq hok;have hz:q.zero.isSome=true:=by obtain⟨l,hl,_⟩:=hok;simp[hl]
 have hcl:=c1.length
 obtain⟨b,o',hb,hcell⟩:∃b o',(0<l.length→p0=some ⟨b,o',none⟩)∧∀(j:Nat) (v:Value),old[j]?=some v→C.w.cell? ⟨b,o'+j,none⟩=some v:=by
  rcases Nat.eq_zero_or_pos l.length with h|h
  ·have:=f1.length;rw[h,Nat.zero_mul]at this;exact⟨0,0,fun h'=>by omega,fun j v hj=>by rw[List.eq_nil_of_length_eq_zero this]at hj;simp at hj⟩
  ·obtain⟨b,o',h1,h2⟩:=f2 h;exact⟨b,o',fun _=>h1,h2⟩
 have happ:=run_app (P:=P) (ty:=o.type) (w:=C.w) (base:=p0) (len:=l.length) (cap:=l.length) (b:=b) (p:=o') (x:=a.eval y) (n:=ds.length) (old:=old) (news:=cs) h0 h1 hs hxt hq hz c2
  (fun w' hw'=>by
   have:=c3 ds.length (Nat.le_refl _) w' hw'
   rwa [List.take_of_length_le (by rw[hcl];exact Nat.le_refl _)]at this) hcl c1.one hb (Nat.le_refl _) f1.length hcell (fun h=>by omega) hroom (by omega) hzs
 rcases happ with⟨r1,r2,r3⟩|⟨cap',out,r1,r2,r3,r4⟩
 ·omega
 ·obtain⟨I1,G1⟩:=hI.drew
  have hnew:=arr_new I1 (id:=nid site) (nv:=nv) hid hq1 (ds:=l++ds) (cs:=out) cap' ⟨out,by
   rw[List.length_append,r3];exact f1.append c1,r2,rfl⟩ (by simp;omega) e
  obtain⟨C',w1,w2,w3,w4,w5⟩:=hnew;rw[List.length_append]at w5;exact .inl ⟨_,_,hexec _ _ (by rw[hrx];exact r4),C',w1,w2,w3,G1.trans w4,w5⟩
theorem lits_src (hI:Inv B C) {sz k:Nat} {ws:List AVal} {val:Value} (hr:RepA C (.lits sz k ws) val):∃cs:List Value,RepL C ws cs∧ws.all AVal.leaf=true∧(∀v∈cs,v.oneCell'=true)∧ws.length=k*sz∧(∀w,(Builtin.lenOf val).run P w=.ok k w)∧
  ∀w,(∀ad,w.cell? ad=C.w.cell? ad)→(Builtin.firstCells sz k val).run P w=.ok cs.toArray w:=by
 simp only[RepA]at hr;obtain⟨b,p,cap,cs,h1,h2,h2',h3,h4,h5,h6⟩:=hr;subst h1;refine⟨cs,h3,h5,h6,h2',fun w=>rfl,fun w hw=>zlb7 (by rw[h3.length,h2']) fun _=>⟨b,p,rfl,fun j v hj=>?_⟩⟩;rw[hw];exact hI.Fw _ _ _ (h4 j v hj)
theorem rarr_new (hI:Inv B C) {id:Id} {nv sz:Nat} (hid:zwa7 C.ρ id=some nv) (hsz:1≤sz) {es:List (List AVal)} (hes:∀row∈es,row.length=sz) {cs:Array Value} (cap:Nat) (hl:es.flatten.all AVal.leaf=true)
  (hr:RepL C es.flatten (cs.toList.take es.flatten.length)) (hsize:cs.size=cap*sz) (hcap:es.length≤cap) (t:TypeId):
  Owes B C (.rsl id nv sz 0 es.length) [(id,.rarr sz nv es)] (.slice (some ⟨C.w.heap.size,0,none⟩) es.length cap) (C.w.alloc (.cells cs t)):=by
 obtain⟨n1,n2,n3,n4⟩:=newVer_lt hid
 obtain⟨h1,h2,h3⟩:=hI.allocO (C.w.alloc (.cells cs t)) (Kept.alloc _ _ _ _) id (.rarr sz nv es) ⟨C.w.heap.size,0,cs.size⟩
  ⟨n1,n4,fun A hA=>by
   simp only[arrAt]at hA;split at hA
   ·rename_i e;simp only[Option.some.injEq]at hA;subst hA;exact n2 _ _ _ _ e
   ·rename_i e;simp only[Option.some.injEq]at hA;subst hA;exact n3 _ _ _ e
   ·cases hA⟩ (.inl (Nat.le_refl _)) (fun _ _=>Nat.le_refl _) (fun C' e1 e2 hg=>by
   refine rarr_ok.2 ⟨hsz,⟨cap,hsize,hcap⟩,hes,hl,own_new C hI cs t C' e1 e2,fun j x hj=>?_⟩;obtain⟨c,hc,hx⟩:=hr.get hj;refine⟨c,?_,hx.grow hg⟩;rw[List.getElem?_take]at hc;rw[e1];split at hc
   ·simpa using hc
   ·cases hc)
 refine⟨{ w:=C.w.alloc (.cells cs t),F:=C.F,μ:=fun i=>if i=id then ⟨C.w.heap.size,0,cs.size⟩ else C.μ i,ρ:=fun i=>if i=id then some (.rarr sz nv es) else C.ρ i },rfl,h3,h1,h2,?_⟩;simp only[RepA];refine⟨⟨nv,sz,es.length,⟨C.w.heap.size,0,cs.size⟩⟩,some ⟨C.w.heap.size,0,none⟩,cap,by simp[arrAt],Nat.le_refl _,rfl,hcap,by simp,fun _=>⟨rfl,by simp,by simpa using hsize,by simp⟩⟩
theorem run_sliceBounds3 (len cap:Nat) {lo:Option Value} {hi mx:Value} {l h m:Int} (w:World)
  (hlo:(lo=none∧l=0)∨∃k,lo=some (.int k l)) (hhi:∃k,hi=.int k h) (hmx:∃k,mx=.int k m) (hb:0≤l∧l≤h∧h≤m∧m≤cap):
  (Instr.sliceBounds true len cap lo (some hi) (some mx)).run P w=.ok (l.toNat,h.toNat,m.toNat) w:=by
 obtain⟨k1,rfl⟩:=hhi;obtain⟨k2,rfl⟩:=hmx;have hs0:∀(code:BoundsCode),(Instr.sliceBound (.int k2 m) cap code).run P w=.ok m.toNat w:=fun code=>run_sliceBound rfl cap code ⟨by omega,hb.2.2.2⟩ w
 have hs2:∀(code:BoundsCode),(Instr.sliceBound (.int k1 h) m.toNat code).run P w=.ok h.toNat w:=fun code=>run_sliceBound rfl m.toNat code ⟨by omega,by omega⟩ w
 have hs1:∀(k:IntKind) (code:BoundsCode),(Instr.sliceBound (.int k l) h.toNat code).run P w=.ok l.toNat w:=fun k code=>run_sliceBound rfl h.toNat code ⟨hb.1,by omega⟩ w
 rcases hlo with⟨rfl,rfl⟩|⟨k,rfl⟩
 ·simp only[Instr.sliceBounds,Sem.run_bind,Sem.run_pure,Result.andThen_ok,hs0,if_true,hs2];rfl
 ·simp only[Instr.sliceBounds,Sem.run_bind,Sem.run_pure,Result.andThen_ok,hs0,if_true,hs2,Option.isSome_some,hs1]
theorem op_slc3 (hI:Inv B C) (hE:RepE C g a) {t e:TypeId} {x hi mx:Operand} {lo:Option Operand} {q:TI} {ax ah am:AX} {v:AVal} {l h m:Int} {ds:List Dat} {ids:List Id} (ho:o.op=.slice t x lo (some hi) (some mx)) (hx:cX x=some ax)
  (hl:(lo=none∧l=0)∨∃lo' al,lo=some lo'∧cX lo'=some al∧zmb7 (evX g al)=some l) (hh:cX hi=some ah) (hm:cX mx=some am)
  (ht:P.underlying t=some (.slice e)) (hq:tI P e=some q) (h2:zmb7 (evX g ah)=some h) (h3:zmb7 (evX g am)=some m)
  (hd:zpb7 C.ρ (evX g ax)=some (.sl ds,ids)) (hb:h≤m∧m≤ds.length) (hv:sliceE q.size (.dat (.sl ds)) l (some h)=some v):Does P o a C.w (Owes B C (fullE (decide (h=m)) v) (frz C.ρ ids)):=by
 obtain⟨C1,c1,c2,c3,c4,c5,c6⟩:=hI.freeze ids
 have hr:RepA C1 (.dat (.sl ds)) (a.eval x):=by
  simp only[RepA];exact zmd7 c5.F c6 hd (zea7 hE hx)
 obtain⟨p,len,cap,e1,e2,e3,e4,e5⟩:=sliceE_rep hv hr;simp only[Option.getD_some]at e3 e4 e5
 have hlen:len=ds.length∧len≤cap:=by
  simp only[RepA]at hr;have:=hr.cell rfl;simp only[RepD]at this;obtain⟨p',cap',q1,q2,q3⟩:=this;simp only[List.cons.injEq,and_true]at q1;rw[e1]at q1;cases q1;exact⟨rfl,q2⟩
 obtain⟨k2,k2'⟩:=zab7 h2 (zea7 hE hh);obtain⟨k3,k3'⟩:=zab7 h3 (zea7 hE hm)
 have hlo:(lo.map a.eval=none∧l=0)∨∃k,lo.map a.eval=some (.int k l):=by
  rcases hl with⟨rfl,hl⟩|⟨lo',al,rfl,q1,q2⟩
  ·exact .inl ⟨rfl,hl⟩
  ·obtain⟨k1,k1'⟩:=zab7 q2 (zea7 hE q1);exact .inr ⟨k1,by simp[k1']⟩
 have hbd:=run_sliceBounds3 (P:=P) len cap C.w hlo ⟨k2,k2'⟩ ⟨k3,k3'⟩ (l:=l) (h:=h) (m:=m) ⟨e2,e3,hb.1,by omega⟩;refine .inl ⟨.slice (if m.toNat=l.toNat then p else p.map (·.add (l.toNat*q.size))) (h.toNat-l.toNat) (m.toNat-l.toNat),C.w,?_,C1,c1,c3,c4,c5,?_⟩
 ·simp only[execOp,ho,Instr.sliceAt,Sem.run_bind,run_underlying ht,Result.andThen_ok,Instr.slice,e1,Option.map_some,hbd,run_sizeOf hq,Sem.run_pure]
 ·unfold sliceE at hv;simp only[Option.getD_some]at hv;split at hv
  ·rename_i hc;simp only[Option.some.injEq]at hv;subst hv;have key:RepV C1.F (.sl ((ds.drop l.toNat).take (h-l).toNat)) (.slice (if m.toNat=l.toNat then p else p.map (·.add (l.toNat*q.size))) (h.toNat-l.toNat) (m.toNat-l.toNat))∧((ds.drop l.toNat).take (h-l).toNat).length=h.toNat-l.toNat:=?_
   ·unfold fullE;by_cases hm':h=m
    ·simp only[hm',decide_true,if_true,RepA];subst hm';exact⟨⟨_,by rw[key.2]⟩,key.1⟩
    ·simp only[hm',decide_false,Bool.false_eq_true,if_false,RepA];exact key.1
   simp only[RepA]at e5;have e5':=e5.cell rfl;simp only[RepD]at e5';obtain⟨p',cap',q1,q2,q3⟩:=e5';simp only[List.cons.injEq,and_true,Value.slice.injEq]at q1;obtain⟨q1,q4,q5⟩:=q1;refine⟨zhb7 rfl ?_,q4.symm⟩;simp only[RepD];refine⟨_,m.toNat-l.toNat,by rw[←q4],by rw[←q4];omega,?_⟩;rcases q3 with q3|⟨b,o',sz,q6,q7⟩
   ·exact .inl q3
   ·by_cases hz:h.toNat=l.toNat
    ·left;apply List.eq_nil_of_length_eq_zero;rw[←q4];omega
    ·refine .inr ⟨b,o',sz,?_,q7⟩;rw[←q6,←q1,if_neg (by omega),if_neg (by omega)]
  ·cases hv
theorem op_bldS0 (hI:Inv B C) (hE:RepE C g a) {t e:TypeId} {n:Nat} {parts:Array (Nat×Operand)} {q:TI} {axs:List AX} (ho:o.op=.buildSlice t n parts)
  (ht:P.underlying t=some (.slice e)) (hq:tI P e=some q) (hz:q.zero.isSome=true) (hx:cXs (parts.map (·.2))=some axs) (hn:parts.toList.map (·.1)=List.range n) (hroom:n*q.size≤1048576)
  (hl:axs.length=0):Does P o a C.w (Owes B C .cap0 []):=by
 have hps:parts.size=n:=by have:=congrArg List.length hn;simpa using this
 subst hps;obtain⟨h1,h2⟩:=bldS_args (C:=C) hE hx hn
 have hp0:parts.size=0:=by
  have:=h1.length;simp[hl]at this;simp[this]
 have hll:(parts.toList.map fun p=>a.eval p.2).length=parts.size:=by simp
 have hnil:(parts.toList.map fun p=>a.eval p.2)=[]:=List.eq_nil_of_length_eq_zero (by rw[hll,hp0]);obtain⟨out,r1,r2⟩:=zdc7 (P:=P) ht hq hz (vs:=parts.toList.map fun p=>a.eval p.2) (by rw[hnil];simp) (by rw[hll];exact hroom) h2 C.w;rw[hll]at r2;have:=hI.allocF out e;simp only at this;obtain⟨d1,d2⟩:=this;refine .inl ⟨.slice (some ⟨C.w.heap.size,0,none⟩) parts.size parts.size,C.w.alloc (.cells out e),?_,{ w:=C.w.alloc (.cells out e),F:=C.F.add C.w.heap.size out.toList,μ:=C.μ,ρ:=C.ρ },rfl,rfl,d1,d2,?_⟩
 ·simp only[execOp,ho,Sem.run_bind,r2,Result.andThen_ok,Sem.run_pure]
 ·rw[hp0];simp only[RepA];exact⟨_,rfl⟩
theorem op_bldSf (hI:Inv B C) (hE:RepE C g a) {t e:TypeId} {n site nv:Nat} {parts:Array (Nat×Operand)} {q:TI} {axs:List AX} (ho:o.op=.buildSlice t n parts)
  (ht:P.underlying t=some (.slice e)) (hq:tI P e=some q) (hq1:1≤q.size) (hz:q.zero.isSome=true) (hx:cXs (parts.map (·.2))=some axs) (hn:parts.toList.map (·.1)=List.range n) (hroom:n*q.size≤1048576)
  (hl:(axs.map (evX g)).all (fun v=>v.cells.length==q.size&&v.cells.all AVal.leaf)=true) (hid:zwa7 C.ρ (nid site)=some nv):
  Does P o a C.w (Owes B C (.rsl (nid site) nv q.size 0 (axs.map (evX g)).length) [(nid site,.rarr q.size nv ((axs.map (evX g)).map AVal.cells))]):=by
 have hps:parts.size=n:=by have:=congrArg List.length hn;simpa using this
 subst hps;obtain⟨h1,h2⟩:=bldS_args (C:=C) hE hx hn
 have hl1:∀v∈axs.map (evX g),v.cells.length=q.size∧v.cells.all AVal.leaf=true:=by
  intro v hv;rw[List.all_eq_true]at hl;have:=hl v hv;simpa using this
 have hl2:(axs.map (evX g)).all (fun v=>v.cells.all AVal.leaf)=true:=by
  rw[List.all_eq_true];exact fun v hv=>(hl1 v hv).2
 obtain⟨k1,k2⟩:=repL_flat h1 hl2
 have hsz:∀v∈(parts.toList.map fun p=>a.eval p.2),v.cells.size=q.size:=by
  intro c hc;obtain⟨i,hi⟩:=List.getElem?_of_mem hc;obtain⟨x,hx⟩:∃x,(axs.map (evX g))[i]?=some x:=⟨_,List.getElem?_eq_getElem (by rw[←h1.length];exact (List.getElem?_eq_some_iff.1 hi).1)⟩;obtain⟨c',e1,e2⟩:=h1.get hx;rw[hi]at e1;cases e1;obtain⟨p1,p2⟩:=hl1 x (List.mem_of_getElem? hx);have:=(e2.cells p2).1.length;simpa[p1]using this
 have hll:(parts.toList.map fun p=>a.eval p.2).length=parts.size:=by simp
 obtain⟨out,r1,r2⟩:=zdc7 (P:=P) ht hq hz (vs:=parts.toList.map fun p=>a.eval p.2) hsz (by rw[hll];exact hroom) h2 C.w;rw[←List.flatMap_def]at r1;rw[hll]at r2;have hax:(axs.map (evX g)).length=parts.size:=by have:=h1.length;simpa using this.symm
 have hfl:((axs.map (evX g)).map AVal.cells).flatten=(axs.map (evX g)).flatMap AVal.cells:=by rw[List.flatMap_def]
 have hlen:((axs.map (evX g)).flatMap AVal.cells).length=parts.size*q.size:=by
  rw[flatMap_len _ _ fun v hv=>(hl1 v hv).1,hax]
 have hsize:out.size=parts.size*q.size:=by
  have:=k1.length;rw[←r1,hlen]at this;simpa using this
 obtain⟨C',w1,w2,w3,w4,w5⟩:=rarr_new hI (id:=nid site) (nv:=nv) hid hq1 (es:=(axs.map (evX g)).map AVal.cells) (fun row hr=>by
   obtain⟨v,hv,rfl⟩:=List.mem_map.1 hr;exact (hl1 v hv).1) (cs:=out) parts.size (by
   rw[hfl,List.all_eq_true];intro x hx;obtain⟨v,hv,hxv⟩:=List.mem_flatMap.1 hx;exact List.all_eq_true.1 (hl1 v hv).2 x hxv) (by
   rw[hfl,hlen,List.take_of_length_le (by simp[hsize]),r1];exact k1) hsize (by rw[List.length_map,hax];exact Nat.le_refl _) e
 rw[List.length_map]at w5;refine .inl ⟨.slice (some ⟨C.w.heap.size,0,none⟩) parts.size parts.size,C.w.alloc (.cells out e),?_,C',w1,w2,w3,w4,?_⟩
 ·simp only[execOp,ho,Sem.run_bind,r2,Result.andThen_ok,Sem.run_pure]
 ·rw[hax]at w5 ⊢;exact w5
theorem row_cells {C:Ctx} {sz:Nat} {w:World} {b:Nat}:∀{rows:List (List AVal)} {o:Nat},(∀row∈rows,row.length=sz)→(∀(i:Nat) (x:AVal),rows.flatten[i]?=some x→∃v,w.cell? ⟨b,o+i,none⟩=some v∧RepA C x v)→
  ∃cs:List Value,cs.length=rows.flatten.length∧(∀(j:Nat) (v:Value),cs[j]?=some v→w.cell? ⟨b,o+j,none⟩=some v)∧RepL C rows.flatten cs:=by
 intro rows o hr h
 obtain⟨cs,f1,f2⟩:=zxd7 (w:=w) (b:=b) rows.flatten.length o (fun j hj=>by
  obtain⟨v,hv,_⟩:=h j rows.flatten[j] (List.getElem?_eq_getElem hj);exact⟨v,hv⟩)
 refine⟨cs,f1,f2,repL_of f1 fun i x v hi hv=>?_⟩;obtain⟨u,hu,hx⟩:=h i x hi;rw[f2 i v hv]at hu;cases hu;exact hx
theorem rsrc_src (hI:Inv B C) {sz:Nat} {x:AVal} {rows:List (List AVal)} {val:Value} (h:rsrcOf C.ρ sz x=some rows) (hr:RepA C x val):
  ∃cs:List Value,RepL C rows.flatten cs∧rows.flatten.all AVal.leaf=true∧(∀v∈cs,v.oneCell'=true)∧(∀row∈rows,row.length=sz)∧(∀w,(Builtin.lenOf val).run P w=.ok rows.length w)∧
  ∀w,(∀ad,w.cell? ad=C.w.cell? ad)→(Builtin.firstCells sz rows.length val).run P w=.ok cs.toArray w:=by
 unfold rsrcOf at h;split at h
 ·rename_i szl k ws;split at h
  ·rename_i e;subst e;cases h;obtain⟨cs,c1,c2,c3,c3',c4,c5⟩:=lits_src (P:=P) hI hr;obtain⟨k1,k2,k3⟩:=chunk_spec k c3';exact⟨cs,by rw[k2];exact c1,by rw[k2];exact c2,c3,k3,by rw[k1];exact c4,by rw[k1];exact c5⟩
  ·cases h
 ·cases h;simp only[RepA]at hr;subst hr;exact⟨[],by simp[RepL],rfl,by simp,by simp,fun w=>rfl,fun w hw=>zlb7 (by simp) (by simp)⟩
 ·cases h;simp only[RepA]at hr;obtain⟨a',cap,rfl,_⟩:=hr;exact⟨[],by simp[RepL],rfl,by simp,by simp,fun w=>rfl,fun w hw=>zlb7 (by simp) (by simp)⟩
 ·cases h;simp only[RepA]at hr;obtain⟨a',rfl⟩:=hr;exact⟨[],by simp[RepL],rfl,by simp,by simp,fun w=>rfl,fun w hw=>zlb7 (by simp) (by simp)⟩
 ·rename_i id ver sz' off len;split at h
  ·rename_i sz'' ver' es hρ;split at h
   ·rename_i hc;obtain⟨rfl,rfl,rfl,hle⟩:=hc;cases h;obtain⟨o1,o2,o3,o3',oown,oel⟩:=rarr_ok.1 (hI.objs id _ hρ);simp only[RepA]at hr;obtain⟨A,p,cap,a1,a2,a3,a4,a5,a6⟩:=hr;have hA:A=⟨ver,sz,es.length,C.μ id⟩:=by simpa[arrAt,hρ]using a1.symm
    subst hA;obtain⟨g1,g2,g3,g4⟩:=a6 rfl;have hrows:∀row∈(es.drop off).take len,row.length=sz:=fun row hm=>o3 row (List.drop_subset _ _ (List.take_subset _ _ hm))
    have hlen:((es.drop off).take len).length=len:=by simp;omega
    have hdrop:(es.drop off).flatten=es.flatten.drop (off*sz):=by
     have h1:es.flatten=(es.take off).flatten++(es.drop off).flatten:=by rw[←List.flatten_append,List.take_append_drop]
     have h2:(es.take off).flatten.length=off*sz:=by
      rw[zxb7 (sz:=sz) fun row hm=>o3 row (List.take_subset _ _ hm)];simp;congr 1;omega
     rw[h1,←h2,List.drop_left]
    have hflat:((es.drop off).take len).flatten=(es.flatten.drop (off*sz)).take (len*sz):=by
     have h1:(es.drop off).flatten=((es.drop off).take len).flatten++((es.drop off).drop len).flatten:=by rw[←List.flatten_append,List.take_append_drop]
     have h2:((es.drop off).take len).flatten.length=len*sz:=by rw[zxb7 hrows,hlen]
     rw[←hdrop,h1,←h2,List.take_left]
    obtain⟨cs,f1,f2,f3⟩:=row_cells (C:=C) (w:=C.w) (b:=(C.μ id).b) (o:=(C.μ id).o+off*sz) hrows (fun i y hi=>by
     rw[hflat,List.getElem?_take]at hi;split at hi
     ·rw[List.getElem?_drop]at hi;obtain⟨v,hv,hx⟩:=oel _ _ hi;exact⟨v,by rw[Nat.add_assoc];exact hv,hx⟩
     ·cases hi)
    have hall:((es.drop off).take len).flatten.all AVal.leaf=true:=by
     rw[List.all_eq_true]at o3' ⊢;intro y hy;apply o3' y;rw[hflat]at hy;exact List.drop_subset _ _ (List.take_subset _ _ hy)
    have hfl:((es.drop off).take len).flatten.length=len*sz:=by rw[zxb7 hrows,hlen]
    refine⟨cs,f3,hall,fun v hv=>?_,hrows,by rw[hlen,a3];exact fun w=>rfl,fun w hw=>?_⟩
    ·obtain⟨j,hj⟩:=List.getElem?_of_mem hv;have hj':j<((es.drop off).take len).flatten.length:=by rw[←f1];exact (List.getElem?_eq_some_iff.1 hj).1
     have hl:=List.all_eq_true.1 hall _ (List.getElem_mem hj');obtain⟨c,hc1,hc2⟩:=f3.get (List.getElem?_eq_getElem hj');rw[hj]at hc1;cases hc1;exact (hc2.leaf hl).1
    ·rw[hlen,a3];refine zlb7 (by rw[f1,hfl]) fun hp=>?_
     have hc0:0<cap:=by
      rcases Nat.eq_zero_or_pos len with h0|h0
      ·rw[f1,hfl,h0]at hp;simp at hp
      ·omega
     exact⟨_,_,g4 hc0,fun j v hj=>by rw[hw];exact f2 j v hj⟩
   ·cases h
  ·cases h
 ·cases h
theorem op_appR' (hI:Inv B C) {c:Call} {x y:Operand} {sT xT e:TypeId} {q:TI} {id:Id} {ver len:Nat} {es0 rows:List (List AVal)} {ay:AVal} (ho:o.op=.call c) (hc:c.callee=.builtin .append) (ha:c.args=#[x,y])
  (h0:c.argTypes[0]?=some sT) (h1:c.argTypes[1]?=some xT) (hs:P.underlying sT=some (.slice e)) (hxt:(∃e',P.underlying xT=some (.slice e'))∨P.underlying xT=some .string) (hq:tI P e=some q) (hok:∃l,q.zero=some l∧l.length=q.size)
  (hrx:RepA C (.rsl id ver q.size 0 len) (a.eval x)) (hY:rsrcOf C.ρ q.size ay=some rows) (hry:RepA C ay (a.eval y)) (hρ:C.ρ id=some (.rarr q.size ver es0)) (hlen0:len≤es0.length) (hd:rows.length≠0)
  (hroom:(len+rows.length)*(q.bytes+1)≤room):
  Does P o a C.w (Owes B C (.rsl id (ver+1) q.size 0 (len+rows.length)) [(id,.rarr q.size (ver+1) (preN len es0++rows))]):=by
 obtain⟨o1,o2,p3,p3',oown,oel0⟩:=rarr_ok.1 (hI.objs id _ hρ);obtain⟨cs,c1,c2,c3,k3,c4,c5⟩:=rsrc_src (P:=P) hI hY hry;rw[preN_take];have hlen:len=(es0.take len).length:=by simp[List.length_take];omega
 have hpre:(es0.take len).flatten=es0.flatten.take (len*q.size):=by
  have h1:es0.flatten=(es0.take len).flatten++(es0.drop len).flatten:=by rw[←List.flatten_append,List.take_append_drop]
  have h2:(es0.take len).flatten.length=len*q.size:=by
   rw[zxb7 (sz:=q.size) fun row hm=>p3 row (List.take_subset _ _ hm),←hlen]
  rw[h1,←h2,List.take_left]
 have o3:∀row∈es0.take len,row.length=q.size:=fun row hm=>p3 row (List.take_subset _ _ hm)
 have o3':(es0.take len).flatten.all AVal.leaf=true:=by
  rw[List.all_eq_true]at p3' ⊢;intro y hy;rw[hpre]at hy;exact p3' y (List.take_subset _ _ hy)
 have oel:=fun (i:Nat) (d:AVal) (hd:(es0.take len).flatten[i]?=some d)=>oel0 i d (by
  rw[hpre,List.getElem?_take]at hd;split at hd
  ·exact hd
  ·cases hd)
 have hA0:(es0.take len).length≤es0.length:=by simp[List.length_take];omega
 have c3':rows.flatten.length=rows.length*q.size:=zxb7 k3;have k1:rows.length=rows.length:=rfl;generalize es0.take len=es at hlen oel hA0 o3 o3' ⊢;simp only[RepA]at hrx;obtain⟨A,p,cap,a1,a2,a3,a4,a5,a6⟩:=hrx;have hA:A=⟨ver,q.size,es0.length,C.μ id⟩:=by simpa[arrAt,hρ]using a1.symm
 subst hA;obtain⟨g1,g2,g3,g4⟩:=a6 rfl;simp only[Nat.zero_add,Nat.zero_mul,Nat.add_zero]at g3 g4;have hargs:c.args.map a.eval=#[a.eval x,a.eval y]:=by rw[ha];simp
 have hexec:∀v w',(Builtin.append_ c.argTypes o.type #[a.eval x,a.eval y]).run P C.w=.ok v w'→(execOp a.eval o).run P C.w=.ok (.value v) w':=by
  intro v w' h;simp only[execOp,ho,resolve,hc,Sem.run_bind,Sem.run_pure,Result.andThen_ok,invoke,builtin,hargs,h]
 have hzs:=zhe7 hq hok;have hz:q.zero.isSome=true:=by obtain⟨l,hl,_⟩:=hok;simp[hl]
 have hfl:es.flatten.length=es.length*q.size:=zxb7 o3
 obtain⟨old,f1,f2⟩:=zxd7 (w:=C.w) (b:=(C.μ id).b) es.flatten.length (C.μ id).o (fun j hj=>by
  obtain⟨v,hv,_⟩:=oel j es.flatten[j] (List.getElem?_eq_getElem hj);exact⟨v,hv⟩)
 have hrold:RepL C es.flatten old:=repL_of f1 fun i x v hi hv=>by
  obtain⟨u,hu,hx⟩:=oel i x hi;rw[f2 i v hv]at hu;cases hu;exact hx
 have hcl:cs.length=rows.length*q.size:=by rw[c1.length,c3']
 have happ:=run_app (P:=P) (ty:=o.type) (w:=C.w) (base:=p) (len:=len) (cap:=cap) (b:=(C.μ id).b) (p:=(C.μ id).o) (x:=a.eval y) (n:=rows.length) (old:=old) (news:=cs) h0 h1 hs hxt hq hz c4
  (fun w' hw'=>c5 w' hw') hcl c3 g4 a4
  (by rw[f1,hfl,hlen]) f2 (fun _ j hj=>by
   rw[←g3]at hj;exact⟨(oown j hj).1,(oown j hj).2.1 _⟩) hroom (by omega) hzs
 have hrows:∀row∈es++rows,row.length=q.size:=by
  intro row hr;rcases List.mem_append.1 hr with hr|hr
  ·exact o3 row hr
  ·exact k3 row hr
 have hflat:(es++rows).flatten=es.flatten++rows.flatten:=by rw[List.flatten_append]
 have hall:(es++rows).flatten.all AVal.leaf=true:=by rw[hflat,List.all_append,o3',c2];rfl
 rcases happ with⟨r1,r2,r3⟩|⟨cap',out,r1,r2,r3,r4⟩
 ·have hfit:len*q.size+cs.length≤(C.μ id).n:=by
   rw[g3,hcl,←Nat.add_mul];exact Nat.mul_le_mul_right _ r1
  have hw:=hI.write hρ rfl (len*q.size) cs (ob':=.rarr q.size (ver+1) (es++rows)) hfit ⟨Nat.le_succ _,fun e=>by omega⟩ (fun C' e1 e2 hg ho'=>by
   refine rarr_ok.2 ⟨o1,⟨cap,g3,by simp;omega⟩,hrows,hall,ho',fun i d hd=>?_⟩;have hwc:=znd7 hI hρ rfl hfit;rw[hflat]at hd;rcases Nat.lt_or_ge i es.flatten.length with hlt|hge
   ·rw[List.getElem?_append_left hlt]at hd;obtain⟨v,hv,hr⟩:=oel i d hd;exact⟨v,by rw[e1,hwc,if_neg (by rw[hlen];omega)];exact hv,hr.grow hg⟩
   ·rw[List.getElem?_append_right hge]at hd;obtain⟨v,hv,hr⟩:=c1.get hd;have:=(List.getElem?_eq_some_iff.1 hv).1;exact⟨v,by rw[e1,hwc,if_pos (by rw[hlen];omega),←hv];congr 1;rw[hlen];omega,hr.grow hg⟩)
  simp only at hw;refine .inl ⟨_,_,hexec _ _ (by rw[a3];exact r3),_,rfl,rfl,hw.1,hw.2,?_⟩;simp only[RepA];refine⟨⟨ver+1,q.size,(es++rows).length,C.μ id⟩,p,cap,by simp[arrAt,updL],Nat.le_refl _,rfl,r1,a5,fun _=>⟨rfl,by simp;omega,by simpa using g3,by simpa using g4⟩⟩
 ·obtain⟨I1,G1⟩:=hI.drew;have hnv:zwa7 C.ρ id=some (ver+1):=by simp[zwa7,hρ]
  have hl2:(es++rows).length=len+rows.length:=by simp[hlen]
  have hnew:=rarr_new I1 (id:=id) (nv:=ver+1) hnv o1 (es:=es++rows) hrows (cs:=out) cap' hall (by
   rw[hflat,List.length_append,hfl,c3',←hlen,←Nat.add_mul,r3];exact (hrold.grow G1).append (c1.grow G1)) r2 (by omega) e
  obtain⟨C',w1,w2,w3,w4,w5⟩:=hnew;refine .inl ⟨_,_,hexec _ _ (by rw[a3];exact r4),C',w1,w2,w3,G1.trans w4,?_⟩;rw[hl2]at w5;exact w5
theorem op_appR (hI:Inv B C) (hE:RepE C g a) {c:Call} {x y:Operand} {sT xT e:TypeId} {q:TI} {ax ay:AX} {id:Id} {ver len:Nat} {es rows:List (List AVal)} (ho:o.op=.call c) (hc:c.callee=.builtin .append) (ha:c.args=#[x,y])
  (h0:c.argTypes[0]?=some sT) (h1:c.argTypes[1]?=some xT) (hs:P.underlying sT=some (.slice e)) (hxt:(∃e',P.underlying xT=some (.slice e'))∨P.underlying xT=some .string) (hq:tI P e=some q) (hok:∃l,q.zero=some l∧l.length=q.size)
  (hx:cX x=some ax) (hy:cX y=some ay) (hX:evX g ax=.rsl id ver q.size 0 len) (hρ:C.ρ id=some (.rarr q.size ver es)) (hY:rsrcOf C.ρ q.size (evX g ay)=some rows) (hlen:len≤es.length) (hd:rows.length≠0)
  (hroom:(len+rows.length)*(q.bytes+1)≤room):
  Does P o a C.w (Owes B C (.rsl id (ver+1) q.size 0 (len+rows.length)) [(id,.rarr q.size (ver+1) (preN len es++rows))]):=
 op_appR' hI ho hc ha h0 h1 hs hxt hq hok (by rw[←hX];exact zea7 hE hx) hY (zea7 hE hy) hρ hlen hd hroom
theorem op_appZ (hI:Inv B C) (hE:RepE C g a) {c:Call} {x y:Operand} {sT xT e:TypeId} {q:TI} {ax ay:AX} {v:AVal} (ho:o.op=.call c) (hc:c.callee=.builtin .append) (ha:c.args=#[x,y])
  (h0:c.argTypes[0]?=some sT) (h1:c.argTypes[1]?=some xT) (hs:P.underlying sT=some (.slice e)) (hxt:(∃e',P.underlying xT=some (.slice e'))∨P.underlying xT=some .string) (hq:tI P e=some q)
  (hx:cX x=some ax) (hy:cX y=some ay) (hsl:∃p len cap,a.eval x=.slice p len cap∧len≤cap) (hY:rsrcOf C.ρ q.size (evX g ay)=some []) (hv:v=evX g ax):
  Does P o a C.w (Owes B C v []):=by
 obtain⟨p,len,cap,a3,a4⟩:=hsl;obtain⟨cs,c1,c2,c3,k3,c4,c5⟩:=rsrc_src (P:=P) hI hY (zea7 hE hy);have hcs:cs=[]:=by simpa[RepL]using c1
 subst hcs;have hargs:c.args.map a.eval=#[a.eval x,a.eval y]:=by rw[ha];simp
 have hexec:∀v w',(Builtin.append_ c.argTypes o.type #[a.eval x,a.eval y]).run P C.w=.ok v w'→(execOp a.eval o).run P C.w=.ok (.value v) w':=by
  intro v w' h;simp only[execOp,ho,resolve,hc,Sem.run_bind,Sem.run_pure,Result.andThen_ok,invoke,builtin,hargs,h]
 refine .inl ⟨a.eval x,C.w,hexec _ _ ?_,C,rfl,rfl,hI,Grow.refl C,by rw[hv];exact zea7 hE hx⟩;have hf:=c5 C.w (fun _=>rfl);simp only[List.length_nil]at hf c4;rw[a3];unfold Builtin.append_;simp only[h0,h1,List.getElem?_toArray,List.getElem?_cons_zero,List.getElem?_cons_succ];rcases hxt with⟨e',hxt⟩|hxt <;>
 simp only[Sem.run_bind,run_underlying hs,Result.andThen_ok,run_sizeOf hq,run_underlying hxt,Sem.run_pure,Bool.false_eq_true,if_false,c4,a4,if_true,Bool.not_false,hf,Nat.add_zero] <;>
 (cases p<;>simp only[storeCells,Sem.run_pure,Sem.run_bind,Result.andThen_ok])
theorem zff7 (hI:Inv B C) {c:Call} {x y:Operand} {sT xT e:TypeId} {q:TI} {site nv:Nat} {rows:List (List AVal)} {ay:AVal} (ho:o.op=.call c) (hc:c.callee=.builtin .append) (ha:c.args=#[x,y])
  (h0:c.argTypes[0]?=some sT) (h1:c.argTypes[1]?=some xT) (hs:P.underlying sT=some (.slice e)) (hxt:(∃e',P.underlying xT=some (.slice e'))∨P.underlying xT=some .string) (hq:tI P e=some q) (hok:∃l,q.zero=some l∧l.length=q.size) (hq1:1≤q.size)
  (hrx:∃p,a.eval x=.slice p 0 0) (hY:rsrcOf C.ρ q.size ay=some rows) (hry:RepA C ay (a.eval y)) (hid:zwa7 C.ρ (nid site)=some nv) (hd:rows.length≠0)
  (hroom:rows.length*(q.bytes+1)≤room):
  Does P o a C.w (Owes B C (.rsl (nid site) nv q.size 0 rows.length) [(nid site,.rarr q.size nv rows)]):=by
 obtain⟨p,hrx⟩:=hrx;obtain⟨cs,c1,c2,c3,k3,c4,c5⟩:=rsrc_src (P:=P) hI hY hry;have c3':rows.flatten.length=rows.length*q.size:=zxb7 k3;have hargs:c.args.map a.eval=#[a.eval x,a.eval y]:=by rw[ha];simp
 have hexec:∀v w',(Builtin.append_ c.argTypes o.type #[a.eval x,a.eval y]).run P C.w=.ok v w'→(execOp a.eval o).run P C.w=.ok (.value v) w':=by
  intro v w' h;simp only[execOp,ho,resolve,hc,Sem.run_bind,Sem.run_pure,Result.andThen_ok,invoke,builtin,hargs,h]
 have hzs:=zhe7 hq hok;have hz:q.zero.isSome=true:=by obtain⟨l,hl,_⟩:=hok;simp[hl]
 have hcl:cs.length=rows.length*q.size:=by rw[c1.length,c3']
 have happ:=run_app (P:=P) (ty:=o.type) (w:=C.w) (base:=p) (len:=0) (cap:=0) (b:=0) (p:=0) (x:=a.eval y) (n:=rows.length) (old:=[]) (news:=cs) h0 h1 hs hxt hq hz c4
  (fun w' hw'=>c5 w' hw') hcl c3 (by simp) (Nat.le_refl _) (by simp) (by simp) (by simp) (by simpa using hroom) (by omega) hzs
 rcases happ with⟨r1,r2,r3⟩|⟨cap',out,r1,r2,r3,r4⟩
 ·omega
 ·obtain⟨I1,G1⟩:=hI.drew
  have hnew:=rarr_new I1 (id:=nid site) (nv:=nv) hid hq1 (es:=rows) k3 (cs:=out) cap' c2 (by
   simp only[Nat.zero_add,List.nil_append]at r3;rw[c3',r3];exact c1.grow G1) r2 (by omega) e
  obtain⟨C',w1,w2,w3,w4,w5⟩:=hnew;simp only[Nat.zero_add]at r4;exact .inl ⟨_,_,hexec _ _ (by rw[hrx];exact r4),C',w1,w2,w3,G1.trans w4,w5⟩
theorem arr_write (hI:Inv B C) {id:Id} {sz ver off:Nat} {es ds:List Dat} (hρ:C.ρ id=some (.arr sz ver false es)) {cs:List Value} (hf:FlatD C.F sz ds cs) (hb:off+ds.length≤es.length):
  off*sz+cs.length≤(C.μ id).n∧
  let C':Ctx:={ w:=C.w.setCells (C.μ id).b ((C.μ id).o+off*sz) cs,F:=C.F,μ:=C.μ,ρ:=updL C.ρ [(id,.arr sz ver false (splice es off ds))] }
  Inv B C'∧Grow C C':=by
 obtain⟨o1,⟨cap,o2,o2'⟩,o3,_⟩:=hI.objs id _ hρ;obtain⟨oown,oel⟩:=o3 rfl;have hcl:=hf.length
 have hfit:off*sz+cs.length≤(C.μ id).n:=by
  rw[hcl,o2,←Nat.add_mul];exact Nat.mul_le_mul_right _ (by omega)
 refine⟨hfit,?_⟩;refine hI.write hρ rfl (off*sz) cs (ob':=.arr sz ver false (splice es off ds)) hfit ⟨Nat.le_refl _,fun _=>⟨rfl,by rw[length_splice _ _ _ hb];exact Nat.le_refl _⟩⟩ (fun C' e1 e2 hg ho'=>?_);refine⟨o1,⟨cap,o2,by rw[length_splice _ _ _ hb];exact o2'⟩,fun _=>⟨ho',fun i d hd=>?_⟩,fun e=>by cases e⟩;have hwc:=znd7 hI hρ rfl hfit;rw[splice_get hb]at hd
 have old:(i<off∨off+ds.length≤i)→es[i]?=some d→∃c,c.length=sz∧RepD C'.F d c∧∀(j:Nat) (v:Value),c[j]?=some v→C'.w.cell? ⟨(C.μ id).b,(C.μ id).o+i*sz+j,none⟩=some v:=by
  intro hi hd;obtain⟨c,q1,q2,q3⟩:=oel i d hd;refine⟨c,q1,RepD.mono hg.F _ _ q2,fun j v hj=>?_⟩;have hj':j<sz:=by rw[←q1];exact (List.getElem?_eq_some_iff.1 hj).1
  rw[e1,Nat.add_assoc,hwc,if_neg,←Nat.add_assoc]
  ·exact q3 j v hj
  ·rw[hcl];intro hcon;rcases hi with hi|hi
   ·have:(i+1)*sz≤off*sz:=Nat.mul_le_mul_right _ hi;rw[Nat.add_mul]at this;omega
   ·have:(off+ds.length)*sz≤i*sz:=Nat.mul_le_mul_right _ hi;rw[Nat.add_mul]at this;omega
 by_cases h1:i<off
 ·rw[if_pos h1]at hd;exact old (.inl h1) hd
 ·rw[if_neg h1]at hd;by_cases h2:i<off+ds.length
  ·rw[if_pos h2]at hd;obtain⟨c,q1,q2,q3⟩:=hf.get hd;refine⟨c,q1,RepD.mono hg.F _ _ q2,fun j v hj=>?_⟩;have hlt:=(List.getElem?_eq_some_iff.1 (q3 j v hj)).1;have e3:off*sz+(i-off)*sz=i*sz:=by rw[←Nat.add_mul];congr 1;omega
   rw[e1,Nat.add_assoc,hwc,if_pos (by omega),←q3 j v hj]
   congr 1;omega
  ·rw[if_neg h2]at hd;exact old (.inr (by omega)) hd
theorem FlatD.take {F:Froz} {sz:Nat}:∀{ds:List Dat} {cs:List Value},FlatD F sz ds cs→∀n,FlatD F sz (ds.take n) (cs.take (n*sz))
 |[],cs,h,n=>by simp only[FlatD]at h;subst h;simp[FlatD]
 |d::r,cs,h,0=>by simp[FlatD]
 |d::r,cs,h,n+1=>by
  simp only[FlatD]at h;obtain⟨c,cs',rfl,h1,h2,h3⟩:=h;simp only[List.take_succ_cons,FlatD];refine⟨c,cs'.take (n*sz),?_,h1,h2,h3.take n⟩;rw[show (n+1)*sz=c.length+n*sz by rw[h1,Nat.add_mul];omega,List.take_length_add_append]
theorem op_cpy (hI:Inv B C) (hE:RepE C g a) {c:Call} {x y:Operand} {sT e:TypeId} {q:TI} {ax ay:AX} {id:Id} {ver off len:Nat} {es ds:List Dat} (ho:o.op=.call c) (hc:c.callee=.builtin .copy) (ha:c.args=#[x,y])
  (h0:c.argTypes[0]?=some sT) (hs:P.underlying sT=some (.slice e)) (hq:tI P e=some q)
  (hx:cX x=some ax) (hy:cX y=some ay) (hX:evX g ax=.rsl id ver q.size off len) (hρ:C.ρ id=some (.arr q.size ver false es)) (hY:srcOf C.ρ q.size (evX g ay)=some ds) (hb:off+len≤es.length):
  Does P o a C.w (Owes B C (.dat (.int .i64 (min ds.length len:Nat))) [(id,.arr q.size ver false (splice es off (ds.take len)))]):=by
 have hrx:=zea7 hE hx;rw[hX]at hrx;obtain⟨o1,⟨cp,o2,o2'⟩,o3,_⟩:=hI.objs id _ hρ;obtain⟨cs,c1,c2,c3⟩:=zaf7 (P:=P) hI o1 hY (zea7 hE hy);simp only[RepA]at hrx;obtain⟨A,p,cap,a1,a2,a3,a4,a5,a6⟩:=hrx;have hA:A=⟨ver,q.size,es.length,C.μ id⟩:=by simpa[arrAt,hρ]using a1.symm
 subst hA;obtain⟨g1,g2,g3,g4⟩:=a6 rfl;have hargs:c.args.map a.eval=#[a.eval x,a.eval y]:=by rw[ha];simp
 have hmin:∀m,Nat.min ds.length len=m→ds.take len=ds.take m∧(ds.take m).length=m:=by
  intro m hm;subst hm;refine⟨?_,by simp⟩;rcases Nat.le_total ds.length len with h|h
  ·have:Nat.min ds.length len=ds.length:=Nat.min_eq_left h;rw[this,List.take_of_length_le h,List.take_length]
  ·have:Nat.min ds.length len=len:=Nat.min_eq_right h;rw[this]
 obtain⟨hm1,hm2⟩:=hmin _ rfl;have hft:=c1.take (Nat.min ds.length len);obtain⟨hfit,hw⟩:=arr_write hI hρ hft (off:=off) (by rw[hm2];exact Nat.le_trans (Nat.add_le_add_left (Nat.min_le_right ds.length len) off) hb);simp only at hw;have hcells:=c3 (Nat.min ds.length len) (Nat.min_le_left _ _) C.w (fun _=>rfl);have hrun:=run_write (P:=P) hI hρ rfl hfit (hft.one);refine .inl ⟨.int .i64 (min ds.length len:Nat),_,?_,_,rfl,by rw[hm1],hw.1,hw.2,zna7 _ _ _⟩
 have hcopy:(Builtin.copy_ c.argTypes o.type #[a.eval x,a.eval y]).run P C.w=.ok (.int .i64 (min ds.length len:Nat)) (C.w.setCells (C.μ id).b ((C.μ id).o+off*q.size) (cs.take (Nat.min ds.length len*q.size))):=by
  rw[a3];unfold Builtin.copy_;simp only[h0,List.getElem?_toArray,List.getElem?_cons_zero,List.getElem?_cons_succ,Sem.run_bind,run_underlying hs,Result.andThen_ok,c2,run_sizeOf hq,hcells];cases p with
  |none=>
   have hz:len=0:=by
    rcases Nat.eq_zero_or_pos len with h|h
    ·exact h
    ·have:=a5 (by omega);simp at this
   subst hz;simp[World.setCells,goInt]
  |some p=>
   by_cases hcap:0<cap
   ·have:=g4 hcap;simp only[Option.some.injEq]at this;subst this;simp only[Sem.run_bind,hrun,Result.andThen_ok,Sem.run_pure];rfl
   ·have hz:len=0:=by omega
    subst hz;simp[World.setCells,goInt,storeCells]
 simp only[execOp,ho,resolve,hc,Sem.run_bind,Sem.run_pure,Result.andThen_ok,invoke,builtin,hargs,hcopy]
theorem op_clr (hI:Inv B C) (hE:RepE C g a) {c:Call} {x:Operand} {sT e:TypeId} {q:TI} {ax:AX} {zero:List AVal} {z:Dat} {id:Id} {ver off len:Nat} {es:List Dat} (ho:o.op=.call c) (hc:c.callee=.builtin .clear) (ha:c.args=#[x])
  (h0:c.argTypes[0]?=some sT) (hs:P.underlying sT=some (.slice e)) (hq:tI P e=some q) (hz:q.zero=some zero) (hd:zrc7 zero=some z) (hw:z.width=q.size)
  (hx:cX x=some ax) (hX:evX g ax=.rsl id ver q.size off len) (hρ:C.ρ id=some (.arr q.size ver false es)) (hb:off+len≤es.length):
  Does P o a C.w (Owes B C (.tup []) [(id,.arr q.size ver false (splice es off (List.replicate len z)))]):=by
 have hrx:=zea7 hE hx;rw[hX]at hrx;obtain⟨v,hv,hvs,hrep⟩:=mk_zero hq hz hd hw;simp only[RepA]at hrx;obtain⟨A,p,cap,a1,a2,a3,a4,a5,a6⟩:=hrx;have hA:A=⟨ver,q.size,es.length,C.μ id⟩:=by simpa[arrAt,hρ]using a1.symm
 subst hA;obtain⟨g1,g2,g3,g4⟩:=a6 rfl;have hargs:c.args.map a.eval=#[a.eval x]:=by rw[ha];simp
 have hft:FlatD C.F q.size (List.replicate len z) (List.replicate len v.cells.toList).flatten:=by
  rw[←hw];exact znc7 (hrep _) _
 obtain⟨hfit,hwr⟩:=arr_write hI hρ hft (off:=off) (by simpa using hb);simp only at hwr;have hrun:=run_write (P:=P) hI hρ rfl hfit (hft.one);have hflat:=zeros_flat v.cells len;refine .inl ⟨.tuple #[],_,?_,_,rfl,rfl,hwr.1,hwr.2,by simp[RepA,RepL]⟩
 have hclear:(Builtin.clear_ c.argTypes o.type #[a.eval x]).run P C.w=.ok (.tuple #[]) (C.w.setCells (C.μ id).b ((C.μ id).o+off*q.size) (List.replicate len v.cells.toList).flatten):=by
  rw[a3];unfold Builtin.clear_;simp only[h0,List.getElem?_toArray,List.getElem?_cons_zero,List.getElem?_cons_succ,Sem.run_bind,run_underlying hs,Result.andThen_ok];rcases Nat.eq_zero_or_pos len with hl|hl
  ·subst hl;cases p<;>simp[World.setCells]
  ·cases p with
   |none=>have:=a5 (by omega);simp at this
   |some p=>
    have:=g4 (by omega);simp only[Option.some.injEq]at this;subst this;cases len with
    |zero=>omega
    |succ n=>
     simp only[Sem.run_bind,hv,Result.andThen_ok,Builtin.zeroCells,hflat,hrun,Sem.run_pure]
 simp only[execOp,ho,resolve,hc,Sem.run_bind,Sem.run_pure,Result.andThen_ok,invoke,builtin,hargs,hclear]
theorem op_appZn (hI:Inv B C) (hE:RepE C g a) {c:Call} {x y:Operand} {sT xT e:TypeId} {kk:IntKind} {q:TI} {ax ay:AX} {zero:List AVal} {z:Dat} {n:Int} {site nv:Nat} (ho:o.op=.call c) (hc:c.callee=.builtin .append) (ha:c.args=#[x,y])
  (h0:c.argTypes[0]?=some sT) (h1:c.argTypes[1]?=some xT) (hs:P.underlying sT=some (.slice e)) (hxt:P.underlying xT=some (.int kk)) (hq:tI P e=some q) (hz:q.zero=some zero) (hd:zrc7 zero=some z) (hw:z.width=q.size∧1≤q.size)
  (hx:cX x=some ax) (hy:cX y=some ay) (hX:evX g ax=.nils) (hY:zmb7 (evX g ay)=some n) (hb:1≤n∧n*(q.bytes+1)≤room) (hid:zwa7 C.ρ (nid site)=some nv):
  Does P o a C.w (Owes B C (.rsl (nid site) nv q.size 0 n.toNat) [(nid site,.arr q.size nv false (List.replicate n.toNat z))]):=by
 obtain⟨v,hv,hvs,hrep⟩:=mk_zero hq hz hd hw.1;have hrx:=zea7 hE hx;rw[hX]at hrx;simp only[RepA]at hrx;obtain⟨k,hk⟩:=zab7 hY (zea7 hE hy);obtain⟨i,d,i1,i2,i3,i4,_⟩:=tI_info hq;obtain⟨hb1,hb2⟩:=hb;have hr:(room:Int)=1099511627776:=rfl;obtain⟨m,rfl⟩:∃m:Nat,n=m:=⟨n.toNat,by omega⟩;simp only[Int.toNat_natCast];have hm1:1≤m:=by omega
 have hle:(m:Int)≤m*(q.bytes+1):=by
  have:m*1≤m*(q.bytes+1):=Nat.mul_le_mul_left _ (by omega);have h2:((m*(q.bytes+1):Nat):Int)=m*(q.bytes+1):=by simp
  omega
 have hbt:(m:Int)*q.bytes≤m*(q.bytes+1):=by
  have:m*q.bytes≤m*(q.bytes+1):=Nat.mul_le_mul_left _ (by omega);have h2:((m*(q.bytes+1):Nat):Int)=m*(q.bytes+1):=by simp
  have h3:((m*q.bytes:Nat):Int)=m*q.bytes:=by simp
  omega
 have wl:IntKind.i64.wrap (m:Int)=m:=IntWalk.i64_in _ ⟨by omega,by omega⟩;have hargs:c.args.map a.eval=#[.slice none 0 0,.int k m]:=by rw[ha];simp[hrx,hk]
 have hexec:∀v w',(Builtin.append_ c.argTypes o.type #[.slice none 0 0,.int k m]).run P C.w=.ok v w'→(execOp a.eval o).run P C.w=.ok (.value v) w':=by
  intro v w' h;simp only[execOp,ho,resolve,hc,Sem.run_bind,Sem.run_pure,Result.andThen_ok,invoke,builtin,hargs,h]
 have hneg:¬((m:Int)<0):=by omega
 have hbig:¬((m:Int)*i.bytes>2 ^ 48):=by rw[←i4];omega
 have hfit:¬(0+m≤0):=by omega
 have hmax:¬(((0+m:Nat):Int)>IntKind.i64.max∧(True∨i.bytes=0)):=by
  intro ⟨h,_⟩;have:IntKind.i64.max=9223372036854775807:=by decide
  omega
 have hgrow:¬(Builtin.nextslicecap (0+m) 0*i.bytes>2 ^ 48):=by
  have h2:((m*q.bytes:Nat):Int)=m*q.bytes:=by simp
  have:=growslice_fits (need:=0+m) (old:=0) (bytes:=i.bytes) (by omega) (by rw[←i4,Nat.zero_add];omega);omega
 have hch:(choose (.appendCap (0+m) 0 e)).run P C.w=.ok (grownCap C.w (0+m) 0 e) C.w.drew:=by
  rw[run_choose];rfl
 have hge:=grownCap_ge C.w (0+m) 0 e;simp only[Nat.zero_add]at hfit hmax hgrow hch hge
 have hms:¬(m*q.size=0):=by
  intro h;rcases Nat.mul_eq_zero.1 h with h|h<;>omega
 obtain⟨I1,G1⟩:=hI.drew;have hlen:(List.replicate m z).length=m:=by simp
 have e2:((List.replicate m v.cells.toList).flatten).length=m*q.size:=by
  rw[List.length_flatten];simp[hvs]
 have hzl:(Builtin.zeroCells v.cells m).toList=(List.replicate m v.cells.toList).flatten:=zeros_flat v.cells m
 have hnew:=arr_new I1 (id:=nid site) (nv:=nv) hid hw.2 (ds:=List.replicate m z) (cs:=#[]++Builtin.zeroCells v.cells m++Builtin.zeroCells v.cells (grownCap C.w m 0 e-m)) (grownCap C.w m 0 e) ⟨_,by
  rw[hlen,Array.toList_append,Array.toList_append,hzl];simp only[List.nil_append];rw[List.take_append_of_le_length (by rw[e2];exact Nat.le_refl _),←e2,List.take_length,←hw.1];exact znc7 (hrep _) _,by
  simp only[Array.size_append,size_zeroCells,hvs,List.size_toArray,List.length_nil,Nat.zero_add,←Nat.add_mul]
  congr 1;omega,rfl⟩ (by rw[hlen];omega) e
 rw[hlen]at hnew;obtain⟨C',w1,w2,w3,w4,w5⟩:=hnew;refine .inl ⟨.slice (some ⟨C.w.drew.heap.size,0,none⟩) m (grownCap C.w m 0 e),_,hexec _ _ ?_,C',w1,w2,w3,G1.trans w4,w5⟩;unfold Builtin.append_
 simp only[h0,h1,List.getElem?_toArray,List.getElem?_cons_zero,List.getElem?_cons_succ,Sem.run_bind,run_underlying hs,Result.andThen_ok,run_sizeOf hq,run_underlying hxt,Sem.run_pure,if_true,asInt,asIntOf,wl,hneg,if_false,run_typeInfo i1,hbig,
  Int.toNat_natCast,hfit,hmax,hgrow,hch,run_askRoom,Builtin.firstCells,Bool.not_true,Bool.false_eq_true,hms,hv,newRow,run_newObj,Nat.zero_add]
 rfl
theorem op_mkr (hI:Inv B C) (hE:RepE C g a) {t e:TypeId} {l c:Operand} {q:TI} {al ac:AX} {zero:List AVal} {ln cn:Int} {site nv:Nat} (ho:o.op=.makeSlice t l c) (hl:cX l=some al) (hc:cX c=some ac)
  (ht:P.underlying t=some (.slice e)) (hq:tI P e=some q) (hz:q.zero=some zero) (hln:zmb7 (evX g al)=some ln) (hcn:zmb7 (evX g ac)=some cn)
  (hb:0≤ln∧ln≤cn∧q.bytes*cn≤room∧cn≤room) (hq1:1≤q.size) (hzs:zero.length=q.size) (hid:zwa7 C.ρ (nid site)=some nv):
  Does P o a C.w (Owes B C (.rsl (nid site) nv q.size 0 ln.toNat) [(nid site,.rarr q.size nv (List.replicate ln.toNat zero))]):=by
 obtain⟨v,hv,hcs⟩:=tI_zero hq hz;obtain⟨z1,z2,z3⟩:=cst_reps (C:=C) hcs;have hvs:v.cells.toList.length=q.size:=by have:=z1.length;rw[this,hzs]
 obtain⟨k,hk⟩:=zab7 hln (zea7 hE hl);obtain⟨k',hk'⟩:=zab7 hcn (zea7 hE hc);obtain⟨out,o1,o2,o3⟩:=zje7 (P:=P) ht hq hv (by simpa using hvs) (k:=k) (k':=k') hb C.w;have hlen:(List.replicate ln.toNat zero).length=ln.toNat:=by simp
 have hrows:∀row∈List.replicate ln.toNat zero,row.length=q.size:=by intro row hr;rw[List.eq_of_mem_replicate hr];exact hzs
 have hrep:∀n,RepL C (List.replicate n zero).flatten (List.replicate n v.cells.toList).flatten:=by
  intro n
  induction n with
  |zero=>simp[RepL]
  |succ n ih=>
   rw[List.replicate_succ,List.replicate_succ,List.flatten_cons,List.flatten_cons];exact z1.append ih
 have:=rarr_new hI hid hq1 (es:=List.replicate ln.toNat zero) hrows (cs:=out) cn.toNat (by
  rw[List.all_eq_true];intro x hx;obtain⟨row,hr,hx⟩:=List.mem_flatten.1 hx;rw[List.eq_of_mem_replicate hr]at hx;exact List.all_eq_true.1 z2 x hx) (by
  have e1:out.toList=(List.replicate ln.toNat v.cells.toList).flatten++(List.replicate (cn.toNat-ln.toNat) v.cells.toList).flatten:=by
   rw[o1,←List.flatten_append,List.replicate_append_replicate]
   congr 2;omega
  have e2:((List.replicate ln.toNat v.cells.toList).flatten).length=ln.toNat*q.size:=by
   rw[List.length_flatten];simp at hvs;simp[hvs]
  rw[zxb7 hrows,hlen,e1,List.take_append_of_le_length (by rw[e2];exact Nat.le_refl _)];rw[List.take_of_length_le (by rw[e2];exact Nat.le_refl _)];exact hrep _) o2 (by rw[hlen];omega) e
 rw[hlen]at this;refine .inl ⟨_,_,?_,this⟩;simp only[execOp,ho,hk,hk',Sem.run_bind,o3,Result.andThen_ok,Sem.run_pure]
end
end Go.Am
