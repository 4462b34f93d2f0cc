/- Parts of the proofs of the statement, joined and made short: AmWrite. -/
import Derived.Test.YtmoibjjpfemgjaaGreatDoorP6
import Derived.Laws.BytesArg
import Derived.IntWalk
set_option linter.unusedVariables false
set_option linter.unusedSimpArgs false
set_option linter.unusedSectionVars false
namespace Go.Am
variable [Glob]
section
variable {P:Program} {o:Oper} {a:Act} {B:Base} {C:Ctx} {g:Nat→AVal}
theorem flat_bytes {F:Froz}:∀{ds:List Dat} {cs:List Value} {s:List UInt8},FlatD F 1 ds cs→zla7 (ds.map fun|.int .u8 n=>some (UInt8.ofNat n.toNat)|_=>none)=some s→
  ∃ns:List Int,cs=ns.map (Value.int .u8)∧s=ns.map fun n=>UInt8.ofNat n.toNat
 |[],cs,s,h,hs=>by
  simp only[FlatD]at h;simp[zla7]at hs;exact⟨[],by simp[h],by simp[hs]⟩
 |d::r,cs,s,h,hs=>by
  simp only[FlatD]at h;obtain⟨c,cs',rfl,h1,h2,h3⟩:=h;simp only[List.map_cons]at hs;cases d with
  |int k n=>
   cases k<;>simp[zla7]at hs
   case u8=>
    cases e:zla7 (r.map fun|.int .u8 n=>some (UInt8.ofNat n.toNat)|_=>none) with
    |none=>rw[e]at hs;simp at hs
    |some s'=>
     rw[e]at hs;simp at hs;subst hs;obtain⟨ns,q1,q2⟩:=flat_bytes h3 e;simp only[RepD]at h2;exact⟨n::ns,by simp[h2,q1],by simp[q2]⟩
  |_=>simp[zla7]at hs
theorem op_b2s (hI:Inv B C) (hE:RepE C g a) {s d e:TypeId} {x:Operand} {ax:AX} {l:List Dat} {r:List UInt8} (ho:o.op=.convert s d x) (hx:cX x=some ax)
  (hs:P.underlying s=some (.slice e)) (he:P.underlying e=some (.int .u8)) (hd:P.underlying d=some .string)
  (hl:elemsOf C.ρ 1 (evX g ax)=some l) (hr:zla7 (l.map fun|.int .u8 n=>some (UInt8.ofNat n.toNat)|_=>none)=some r):Does P o a C.w (Owes B C (.dat (.str r)) []):=by
 obtain⟨p,cap,cs,h1,h2,h3⟩:=elemsOf_rep hI hl (zea7 hE hx);obtain⟨ns,q1,q2⟩:=flat_bytes h2 hr;refine zfa7 hI (val:=.string ⟨r.toArray⟩) ?_ (rep_mk_str C _);have hlen:=h2.length
 have hcv:(convert s d (a.eval x)).run P C.w=.ok (.string ⟨r.toArray⟩) C.w:=by
  rw[h1,run_convert_bytes_string C.w s d e p l.length cap hs he hd];cases p with
  |none=>
   have:l=[]:=by
    cases l with
    |nil=>rfl
    |cons x y=>obtain⟨b,o,q,_⟩:=h3 (by simp);cases q
   subst this;simp only[FlatD]at h2;subst h2;have:ns=[]:=by simpa using q1.symm
   subst this;subst q2;rfl
  |some p=>
   have hload:(loadCells p l.length).run P C.w=.ok (ns.map (Value.int .u8)).toArray C.w:=by
    have hc:cs.length=l.length:=by simpa using hlen
    rw[←hc,←q1];refine run_loadCells_list C.w p cs ?_;intro j v hj;have hpos:0<l.length:=by rw[←hc];exact Nat.lt_of_le_of_lt (Nat.zero_le _) (List.getElem?_eq_some_iff.1 hj).1
    obtain⟨b,o,e1,e2⟩:=h3 hpos;cases e1;rw[Addr.add_mk];exact e2 j v hj
   rw[run_bytesToString C.w p l.length cap ns hload,foldl_push_bytes,q2]
   congr 2
   apply ByteArray.ext;simp
 simp only[execOp,ho,Sem.run_bind,hcv,Result.andThen_ok,Sem.run_pure]
theorem own_new (C:Ctx) (hI:Inv B C) (cs:Array Value) (t:TypeId) (C':Ctx) (hw:C'.w=C.w.alloc (.cells cs t)) (hF:C'.F=C.F):OwnOK C' ⟨C.w.heap.size,0,cs.size⟩:=by
 intro j hj;rw[hw,hF];simp only[Nat.zero_add];refine⟨⟨cs[j],by simp[hj]⟩,by simp,?_⟩;cases e:C.F C.w.heap.size j with
 |none=>rfl
 |some v=>have:=World.block_lt_of_cell? _ _ (hI.Fw _ _ _ e);simp at this
theorem box_new (hI:Inv B C) {id:Id} (hid:C.ρ id=none) {cells:List AVal} {cs:Array Value} (hr:RepL C cells cs.toList) (hl:cells.all AVal.leaf=true) (t:TypeId):
  Owes B C (.ref id 0) [(id,.box cells)] (.pointer (some ⟨C.w.heap.size,0,none⟩)) (C.w.alloc (.cells cs t)):=by
 have hlen:cs.size=cells.length:=by simpa using hr.length
 obtain⟨h1,h2,h3⟩:=hI.allocO (C.w.alloc (.cells cs t)) (Kept.alloc _ _ _ _) id (.box cells) ⟨C.w.heap.size,0,cs.size⟩
  ⟨by simp[hid],by simp[hid],fun A hA=>by simp[arrAt,hid]at hA⟩ (.inl (Nat.le_refl _)) (fun _ _=>Nat.le_refl _) (fun C' e1 e2 hg=>by
   refine⟨hlen,hl,own_new C hI cs t C' e1 e2,fun j x hj=>?_⟩;obtain⟨c,hc,hx⟩:=hr.get hj;refine⟨c,?_,hx.grow hg⟩;rw[e1];simpa using hc)
 refine⟨_,rfl,h3,h1,h2,?_⟩;simp only[RepA];exact⟨⟨C.w.heap.size,0,cs.size⟩,by simp[boxAt],by simp⟩
theorem op_box (hI:Inv B C) (hE:RepE C g a) {t:TypeId} {x:Operand} {ax:AX} {site:Nat} (ho:o.op=.box t x) (hx:cX x=some ax)
  (hid:C.ρ (nid site)=none) (hl:(evX g ax).cells.all AVal.leaf=true):Does P o a C.w (Owes B C (.ref (nid site) 0) [(nid site,.box (evX g ax).cells)]):=by
 have hr:=zea7 hE hx;have:=box_new hI hid (hr.cells hl).1 hl t;refine .inl ⟨_,_,?_,this⟩;simp[execOp,ho,Instr.box,newVar,newRow]
theorem op_alc (hI:Inv B C) {t:TypeId} {q:TI} {zero:List AVal} {site:Nat} (ho:o.op=.alloc t) (hq:tI P t=some q) (hz:q.zero=some zero) (hid:C.ρ (nid site)=none):
  Does P o a C.w (Owes B C (.ref (nid site) 0) [(nid site,.box zero)]):=by
 obtain⟨v,hv,hc⟩:=tI_zero hq hz;obtain⟨h1,h2,h3⟩:=cst_reps (C:=C) hc;have:=box_new hI hid (cs:=v.cells) h1 h2 t;refine .inl ⟨_,_,?_,this⟩;simp[execOp,ho,Instr.alloc,newVar,newRow,hv]
theorem RepL.splice {l:List AVal} {cs:List Value} (h:RepL C l cs) {v:List AVal} {c:List Value} (hv:RepL C v c) (off:Nat):RepL C (splice l off v) (splice cs off c):=by
 unfold Am.splice;rw[hv.length];exact ((h.take off).append hv).append (h.drop _)
theorem all_splice {l v:List AVal} (h:l.all AVal.leaf=true) (hv:v.all AVal.leaf=true) (off:Nat):(splice l off v).all AVal.leaf=true:=by
 unfold splice;rw[List.all_eq_true]at h hv ⊢;intro x hx;simp only[List.mem_append]at hx;rcases hx with (hx|hx)|hx
 ·exact h x (List.mem_of_mem_take hx)
 ·exact hv x hx
 ·exact h x (List.mem_of_mem_drop hx)
theorem RepL.one {l:List AVal} {cs:List Value} (h:RepL C l cs) (hl:l.all AVal.leaf=true):∀c∈cs,c.oneCell'=true:=by
 intro c hc;obtain⟨i,hi⟩:=List.getElem?_of_mem hc;obtain⟨x,hx⟩:∃x,l[i]?=some x:=⟨_,List.getElem?_eq_getElem (by rw[←h.length];exact (List.getElem?_eq_some_iff.1 hi).1)⟩;obtain⟨c',e1,e2⟩:=h.get hx;rw[hi]at e1;cases e1;rw[List.all_eq_true]at hl;exact (e2.leaf (hl x (List.mem_of_getElem? hx))).1
def All2 {α β:Type} (R:α→β→Prop):List α→List β→Prop
 |[],[]=>True
 |a::l,b::r=>R a b∧All2 R l r
 |_,_=>False
theorem fillE_run (place:Nat→Option (Nat×Nat)):∀(parts:List (Nat×Value)) (aparts:List (Nat×Nat×AVal)) (cells:Array Value) (cs r:List AVal),
  (All2 (fun p q=>place p.1=some (q.1,q.2.1)∧RepA C q.2.2 p.2) parts aparts)→RepL C cs cells.toList→cs.all AVal.leaf=true→fillE cs aparts=some r→
  ∃out,Instr.fill place cells parts=some out∧RepL C r out.toList∧r.all AVal.leaf=true
 |[],[],cells,cs,r,h2,hr,hl,h=>by
  simp only[fillE,Option.some.injEq]at h;subst h;exact⟨cells,rfl,hr,hl⟩
 |[],_::_,cells,cs,r,h2,hr,hl,h=>h2.elim
 |_::_,[],cells,cs,r,h2,hr,hl,h=>h2.elim
 |(i,v)::parts,(off,n,x)::qs,cells,cs,r,h2,hr,hl,h=>by
  obtain⟨hp,h2⟩:=h2;simp only[fillE]at h;split at h
  ·rename_i hc;obtain⟨c1,c2,c3⟩:=hc;have hx:=hp.2.cells c3;have hvs:v.cells.size=n:=by have:=hx.1.length;rw[c1]at this;simpa using this
   have hcl:cells.size=cs.length:=by simpa using hr.length
   obtain⟨cells',e1,e2⟩:=fill_step (off:=off) (size:=n) place cells i v parts hp.1 hvs (by omega);rw[e1];exact fillE_run place parts qs cells' _ r h2 (by rw[e2];exact hr.splice hx.1 off) (all_splice hl c3 off) h
  ·cases h
theorem partsOf_spec {t:TypeId} {parts:List (Nat×Operand)} {ps:List (Nat×Nat×AX)} (h:partsOf P t parts=some ps):
  All2 (fun p q=>∃i,fieldT P t p.1=some (q.1,i)∧i.size=q.2.1∧cX p.2=some q.2.2) parts ps:=by
 unfold partsOf at h
 induction parts generalizing ps with
 |nil=>simp[zla7]at h;subst h;exact trivial
 |cons p r ih=>
  simp only[List.map_cons]at h;cases e1:fieldT P t p.1 with
  |none=>simp[zla7,e1]at h
  |some q=>
   cases e2:cX p.2 with
   |none=>simp[zla7,e1,e2]at h
   |some x=>
    simp only[e1,e2,zla7]at h;split at h
    ·rename_i r' hr';simp only[Option.some.injEq]at h;subst h;exact⟨⟨q.2,e1,rfl,e2⟩,ih hr'⟩
    ·cases h
theorem run_mapM_places {fs:List Field}:∀(w:World),(∀fd∈fs,∃q,tI P fd.type=some q)→
  ∃ps:List (Nat×Nat),(fs.mapM fun fd=>(do pure (fd.offset,←sizeOf fd.type):Sem (Nat×Nat))).run P w=.ok ps w∧ps.length=fs.length∧
   ∀(i:Nat) (fd:Field) (q:TI),fs[i]?=some fd→tI P fd.type=some q→ps[i]?=some (fd.offset,q.size):=by
 induction fs with
 |nil=>intro w _;exact⟨[],by simp,rfl,by simp⟩
 |cons fd r ih=>
  intro w h;obtain⟨q,hq⟩:=h fd (by simp);obtain⟨ps,h1,h2,h3⟩:=ih w (fun x hx=>h x (by simp[hx]));refine⟨(fd.offset,q.size)::ps,?_,by simp[h2],fun i x q' hi hq'=>?_⟩
  ·simp only[List.mapM_cons,Sem.run_bind,run_sizeOf hq,Sem.run_pure,Result.andThen_ok,h1]
  ·cases i with
   |zero=>simp at hi;subst hi;rw[hq]at hq';cases hq';rfl
   |succ i=>simp at hi;simpa using h3 i x q' hi hq'
theorem op_bld (hI:Inv B C) (hE:RepE C g a) {t:TypeId} {parts:Array (Nat×Operand)} {q:TI} {zero cs:List AVal} {ps:List (Nat×Nat×AX)} (ho:o.op=.build t parts) (hq:tI P t=some q) (hz:q.zero=some zero)
  (hps:partsOf P t parts.toList=some ps) (hall:∃fs,P.underlying t=some (.struct fs)∧∀fd∈fs.toList,(tI P fd.type).isSome=true)
  (h:fillE zero (ps.map fun p=>(p.1,p.2.1,evX g p.2.2))=some cs):Does P o a C.w (Owes B C (.agg cs) []):=by
 obtain⟨v,hv,hc⟩:=tI_zero hq hz;obtain⟨z1,z2,z3⟩:=cst_reps (C:=C) hc;obtain⟨fs,hu,hfs⟩:=hall;obtain⟨places,p1,p2,p3⟩:=run_mapM_places (P:=P) (fs:=fs.toList) C.w (fun fd hfd=>Option.isSome_iff_exists.1 (hfs fd hfd));have hsp:=partsOf_spec hps
 have hf2:All2 (fun (p:Nat×Value) (q:Nat×Nat×AVal)=>(places.toArray[p.1]?=some (q.1,q.2.1))∧RepA C q.2.2 p.2) (parts.toList.map fun p=>(p.1,a.eval p.2)) (ps.map fun p=>(p.1,p.2.1,evX g p.2.2)):=by
  clear h hps;generalize parts.toList=L at hsp
  induction L generalizing ps with
  |nil=>cases ps with
   |nil=>exact trivial
   |cons=>exact hsp.elim
  |cons p L ih=>cases ps with
   |nil=>exact hsp.elim
   |cons q qs=>
    obtain⟨hp,hsp⟩:=hsp;refine⟨?_,ih hsp⟩;obtain⟨i,e1,e2,e3⟩:=hp;obtain⟨fs',fd,hu',hfd,hti,hoff⟩:=fieldT_spec e1;rw[hu]at hu';cases hu';refine⟨?_,zea7 hE e3⟩;have:=p3 p.1 fd i (by simpa using hfd) hti;simpa[hoff,e2]using this
 obtain⟨out,f1,f2,f3⟩:=fillE_run (C:=C) (places.toArray[·]?) _ _ v.cells zero cs hf2 z1 z2 h;refine zfa7 hI (val:=.agg out) ?_ ?_
 ·have hm:(fs.mapM fun fd=>(do pure (fd.offset,←sizeOf fd.type):Sem (Nat×Nat))).run P C.w=.ok places.toArray C.w:=by
   rw[Array.mapM_eq_mapM_toList];simp only[Sem.run_map,p1,Result.andThen_ok]
  have hpl:(parts.map fun p=>(p.1,a.eval p.2)).toList=parts.toList.map fun p=>(p.1,a.eval p.2):=by simp
  simp only[execOp,ho,Instr.build,Sem.run_bind,hv,Result.andThen_ok,run_underlying hu,hm,Array.toList_map,f1,Sem.run_pure]
 ·simp only[RepA];exact⟨out,rfl,f2,f3,by simpa using f2.one f3⟩
theorem partsA_spec {n size:Nat}:∀{parts:List (Nat×Operand)} {ps:List (Nat×Nat×AX)},partsA n size parts=some ps→
  All2 (fun (p:Nat×Operand) (q:Nat×Nat×AX)=>p.1<n∧q.1=p.1*size∧q.2.1=size∧cX p.2=some q.2.2) parts ps
 |[],ps,h=>by
  simp[partsA,zla7]at h;subst h;exact trivial
 |p::r,ps,h=>by
  unfold partsA at h;simp only[List.map_cons]at h;cases e:cX p.2 with
  |none=>simp[e,zla7]at h
  |some x=>
   simp only[e]at h;split at h
   ·rename_i hlt;unfold zla7 at h;cases e2:partsA n size r with
    |none=>unfold partsA at e2;rw[e2]at h;cases h
    |some qs=>
     have e2':=e2;unfold partsA at e2;rw[e2]at h;simp only[Option.some.injEq]at h;subst h;exact⟨⟨hlt,rfl,rfl,e⟩,partsA_spec (ps:=qs) e2'⟩
   ·unfold zla7 at h;cases h
theorem op_bldA (hI:Inv B C) (hE:RepE C g a) {t e:TypeId} {n:Nat} {parts:Array (Nat×Operand)} {q i:TI} {zero cs:List AVal} {ps:List (Nat×Nat×AX)} (ho:o.op=.build t parts) (hu:P.underlying t=some (.array n e)) (hq:tI P t=some q) (hi:tI P e=some i) (hz:q.zero=some zero)
  (hps:partsA n i.size parts.toList=some ps)
  (h:fillE zero (ps.map fun p=>(p.1,p.2.1,evX g p.2.2))=some cs):Does P o a C.w (Owes B C (.agg cs) []):=by
 obtain⟨v,hv,hc⟩:=tI_zero hq hz;obtain⟨z1,z2,z3⟩:=cst_reps (C:=C) hc;have hsp:=partsA_spec hps
 have hf2:All2 (fun (p:Nat×Value) (q:Nat×Nat×AVal)=>((fun j=>some (j*i.size,i.size)) p.1=some (q.1,q.2.1))∧RepA C q.2.2 p.2) (parts.toList.map fun p=>(p.1,a.eval p.2)) (ps.map fun p=>(p.1,p.2.1,evX g p.2.2)):=by
  clear h hps;generalize parts.toList=L at hsp
  induction L generalizing ps with
  |nil=>cases ps with
   |nil=>exact trivial
   |cons=>exact hsp.elim
  |cons p L ih=>cases ps with
   |nil=>exact hsp.elim
   |cons q qs=>
    obtain⟨hp,hsp⟩:=hsp;refine⟨?_,ih hsp⟩;obtain⟨e0,e1,e2,e3⟩:=hp;refine⟨by simp[e1,e2],zea7 hE e3⟩
 obtain⟨out,f1,f2,f3⟩:=fillE_run (C:=C) (fun j=>some (j*i.size,i.size)) _ _ v.cells zero cs hf2 z1 z2 h;refine zfa7 hI (val:=.agg out) ?_ ?_
 ·simp only[execOp,ho,Instr.build,Sem.run_bind,hv,Result.andThen_ok,run_underlying hu,run_sizeOf hi,Array.toList_map,f1,Sem.run_pure]
 ·simp only[RepA];exact⟨out,rfl,f2,f3,by simpa using f2.one f3⟩
theorem zdc7 {t e:TypeId} {q:TI} (ht:P.underlying t=some (.slice e)) (hq:tI P e=some q) (hz:q.zero.isSome=true) {vs:List Value} (hs:∀v∈vs,v.cells.size=q.size)
  (hroom:vs.length*q.size≤1048576) {parts:Array (Nat×Value)} (hp:parts.toList=(List.range vs.length).zip vs) (w:World):
  ∃out:Array Value,out.toList=(vs.map (·.cells.toList)).flatten∧
   (Instr.buildSlice t vs.length parts).run P w=.ok (.slice (some ⟨w.heap.size,0,none⟩) vs.length vs.length) (w.alloc (.cells out e)):=by
 obtain⟨z,hzv⟩:=tI_zero_some hq hz
 have main:∀(zc:Array Value),∃out:Array Value,out.toList=(vs.map (·.cells.toList)).flatten∧
   Instr.fill (fun i=>some (i*q.size,q.size)) ((Array.range (vs.length*q.size)).map (zc[· % zc.size]!)) parts.toList=some out:=by
  intro zc;obtain⟨out,f1,f2⟩:=fill_row q.size vs 0 ((Array.range (vs.length*q.size)).map (zc[· % zc.size]!)) hs (by simp);rw[←List.range_eq_range']at f1;exact⟨out,by simpa using f2,by rw[hp];exact f1⟩
 have hb:¬(vs.length*q.size>2 ^ 24):=by omega
 by_cases hc:vs.length*q.size=0
 ·obtain⟨out,f1,f2⟩:=main #[];refine⟨out,f1,?_⟩;unfold Instr.buildSlice;simp only[Sem.run_bind,run_underlying ht,Result.andThen_ok,run_sizeOf hq];rw[if_neg hb,if_pos hc];simp only[Sem.run_bind,Sem.run_pure,Result.andThen_ok];simp only[f2,newRow,Sem.run_bind,run_newObj,Result.andThen_ok,Sem.run_pure];rfl
 ·obtain⟨out,f1,f2⟩:=main z.cells;refine⟨out,f1,?_⟩;unfold Instr.buildSlice;simp only[Sem.run_bind,run_underlying ht,Result.andThen_ok,run_sizeOf hq];rw[if_neg hb,if_neg hc];simp only[Sem.run_bind,Sem.run_pure,Result.andThen_ok,hzv];simp only[f2,newRow,Sem.run_bind,run_newObj,Result.andThen_ok,Sem.run_pure];rfl
theorem bldS_args (hE:RepE C g a) {parts:Array (Nat×Operand)} {axs:List AX} (h:cXs (parts.map (·.2))=some axs) (hn:parts.toList.map (·.1)=List.range parts.size):
  RepL C (axs.map (evX g)) (parts.toList.map fun p=>a.eval p.2)∧(parts.map fun p=>(p.1,a.eval p.2)).toList=(List.range (parts.toList.map fun p=>a.eval p.2).length).zip (parts.toList.map fun p=>a.eval p.2):=by
 refine⟨?_,?_⟩
 ·have:=cXs_rep (C:=C) hE h;simpa[Function.comp_def]using this
 ·have e:(parts.map fun p=>(p.1,a.eval p.2)).toList=(parts.toList.map (·.1)).zip (parts.toList.map fun p=>a.eval p.2):=by
   rw[List.zip_map'];simp
  rw[e,hn];simp
theorem op_bldSd (hI:Inv B C) (hE:RepE C g a) {t e:TypeId} {n:Nat} {parts:Array (Nat×Operand)} {q:TI} {axs:List AX} {ds:List Dat} {fs:List Id} (ho:o.op=.buildSlice t n parts)
  (ht:P.underlying t=some (.slice e)) (hq:tI P e=some q) (hz:q.zero.isSome=true) (hx:cXs (parts.map (·.2))=some axs) (hn:parts.toList.map (·.1)=List.range n) (hroom:n*q.size≤1048576)
  (h:decAll C.ρ (axs.map (evX g))=some (ds,fs)) (hw:ds.all (fun d=>d.width==q.size)=true):Does P o a C.w (Owes B C (.dat (.sl ds)) (frz C.ρ fs)):=by
 have hps:parts.size=n:=by have:=congrArg List.length hn;simpa using this
 subst hps;obtain⟨h1,h2⟩:=bldS_args (C:=C) hE hx hn;obtain⟨C1,c1,c2,c3,c4,c5,c6⟩:=hI.freeze fs;obtain⟨f1,f2,f3⟩:=decAll_rep c5.F c6 h h1 hw;have hl:(parts.toList.map fun p=>a.eval p.2).length=parts.size:=by simp
 obtain⟨out,r1,r2⟩:=zdc7 (P:=P) ht hq hz f2 (by rw[hl];exact hroom) h2 C.w;have:=c4.allocF out e;simp only at this;obtain⟨d1,d2⟩:=this;rw[hl]at r2;refine .inl ⟨.slice (some ⟨C.w.heap.size,0,none⟩) parts.size parts.size,C.w.alloc (.cells out e),?_,{ w:=C1.w.alloc (.cells out e),F:=C1.F.add C1.w.heap.size out.toList,μ:=C1.μ,ρ:=C1.ρ },?_,c3,d1,c5.trans d2,?_⟩
 ·simp only[execOp,ho,Sem.run_bind,r2,Result.andThen_ok,Sem.run_pure]
 ·rw[c1]
 ·simp only[RepA];refine zhb7 rfl ?_;simp only[RepD];have hlen:ds.length=parts.size:=by rw[f3,hl]
  refine⟨some ⟨C.w.heap.size,0,none⟩,parts.size,by rw[hlen],by omega,.inr ⟨C.w.heap.size,0,q.size,rfl,?_⟩⟩;refine flat_row (f1.mono d2.F) ?_;rw[←r1];have:=cellsAt_add C1.F C1.w.heap.size out.toList;rw[c1]at this ⊢;exact this
theorem arr_new (hI:Inv B C) {id:Id} {nv sz:Nat} (hid:zwa7 C.ρ id=some nv) (hsz:1≤sz) {ds:List Dat} {cs:Array Value} (cap:Nat) (hr:∃tl,FlatD C.F sz ds (cs.toList.take (ds.length*sz))∧cs.size=cap*sz∧tl=cs) (hcap:ds.length≤cap) (t:TypeId):
  Owes B C (.rsl id nv sz 0 ds.length) [(id,.arr sz nv false ds)] (.slice (some ⟨C.w.heap.size,0,none⟩) ds.length cap) (C.w.alloc (.cells cs t)):=by
 obtain⟨_,hf,hsize,_⟩:=hr;obtain⟨n1,n2,n3,n4⟩:=newVer_lt hid
 obtain⟨h1,h2,h3⟩:=hI.allocO (C.w.alloc (.cells cs t)) (Kept.alloc _ _ _ _) id (.arr sz nv false ds) ⟨C.w.heap.size,0,cs.size⟩
  ⟨n1,n4,fun A hA=>by
   simp only[arrAt]at hA;split at hA
   ·rename_i e;simp only[Option.some.injEq]at hA;subst hA;exact n2 _ _ _ _ e
   ·rename_i e;simp only[Option.some.injEq]at hA;subst hA;exact n3 _ _ _ e
   ·cases hA⟩ (.inl (Nat.le_refl _)) (fun _ _=>Nat.le_refl _) (fun C' e1 e2 hg=>by
   refine⟨hsz,⟨cap,hsize,hcap⟩,fun _=>⟨own_new C hI cs t C' e1 e2,fun i d hd=>?_⟩,fun e=>by cases e⟩;obtain⟨c,q1,q2,q3⟩:=hf.get hd;refine⟨c,q1,RepD.mono hg.F _ _ q2,fun j v hj=>?_⟩;have:=q3 j v hj;rw[e1];rw[List.getElem?_take]at this;split at this
   ·simpa using this
   ·cases this)
 refine⟨_,rfl,h3,h1,h2,?_⟩;simp only[RepA];refine⟨⟨nv,sz,ds.length,⟨C.w.heap.size,0,cs.size⟩⟩,some ⟨C.w.heap.size,0,none⟩,cap,by simp[arrAt],Nat.le_refl _,rfl,hcap,by simp,fun _=>⟨rfl,by simp,by simpa using hsize,by simp⟩⟩
theorem op_bldSo (hI:Inv B C) (hE:RepE C g a) {t e:TypeId} {n site nv:Nat} {parts:Array (Nat×Operand)} {q:TI} {axs:List AX} {ds:List Dat} {fs:List Id} (ho:o.op=.buildSlice t n parts)
  (ht:P.underlying t=some (.slice e)) (hq:tI P e=some q) (hq1:1≤q.size) (hz:q.zero.isSome=true) (hx:cXs (parts.map (·.2))=some axs) (hn:parts.toList.map (·.1)=List.range n) (hroom:n*q.size≤1048576)
  (h:decAll C.ρ (axs.map (evX g))=some (ds,fs)) (hw:ds.all (fun d=>d.width==q.size)=true) (hid:zwa7 C.ρ (nid site)=some nv) (hfs:nid site∉fs):
  Does P o a C.w (Owes B C (.rsl (nid site) nv q.size 0 ds.length) (frz C.ρ fs++[(nid site,.arr q.size nv false ds)])):=by
 have hps:parts.size=n:=by have:=congrArg List.length hn;simpa using this
 subst hps;obtain⟨h1,h2⟩:=bldS_args (C:=C) hE hx hn;obtain⟨C1,c1,c2,c3,c4,c5,c6⟩:=hI.freeze fs;obtain⟨f1,f2,f3⟩:=decAll_rep c5.F c6 h h1 hw;have hl:(parts.toList.map fun p=>a.eval p.2).length=parts.size:=by simp
 obtain⟨out,r1,r2⟩:=zdc7 (P:=P) ht hq hz f2 (by rw[hl];exact hroom) h2 C.w;have hlen:ds.length=parts.size:=by rw[f3,hl]
 have hfz:∀(fs:List Id),nid site∉fs→∀ρ:Look,updL ρ (frz C.ρ fs) (nid site)=ρ (nid site):=by
  intro fs
  induction fs with
  |nil=>intro _ ρ;rfl
  |cons i r ih=>
   intro hn ρ;simp only[List.mem_cons,not_or]at hn;simp only[frz];split
   ·simp only[updL];rw[ih hn.2];rw[if_neg (fun e=>hn.1 e.symm)]
   ·exact ih hn.2 ρ
 have hid1:zwa7 C1.ρ (nid site)=some nv:=by
  rw[c3];unfold zwa7 at hid ⊢;rw[hfz fs hfs];exact hid
 have hsize:out.size=parts.size*q.size:=by
  have:=f1.length;rw[←r1]at this;simpa[hlen]using this
 obtain⟨C',w1,w2,w3,w4,w5⟩:=arr_new c4 hid1 hq1 (ds:=ds) (cs:=out) parts.size ⟨out,by
  rw[List.take_of_length_le (by simp[hsize,hlen])];rw[r1];exact f1,hsize,rfl⟩ (by omega) e
 rw[hl]at r2;refine .inl ⟨.slice (some ⟨C.w.heap.size,0,none⟩) parts.size parts.size,C.w.alloc (.cells out e),?_,C',?_,?_,w3,c5.trans w4,?_⟩
 ·simp only[execOp,ho,Sem.run_bind,r2,Result.andThen_ok,Sem.run_pure]
 ·rw[w1,c1]
 ·rw[w2,c3,zze7]
 ·rw[c1,hlen]at w5;rw[hlen];exact w5
theorem repL_flat {C:Ctx}:∀{l:List AVal} {vs:List Value},RepL C l vs→l.all (fun v=>v.cells.all AVal.leaf)=true→
  RepL C (l.flatMap AVal.cells) (vs.flatMap fun v=>v.cells.toList)∧∀c∈vs.flatMap (fun v=>v.cells.toList),c.oneCell'=true
 |[],vs,h,_=>by
  simp only[RepL]at h;subst h;simp[RepL]
 |x::r,vs,h,hl=>by
  simp only[RepL]at h;obtain⟨c,cs',rfl,h1,h2⟩:=h;simp only[List.all_cons,Bool.and_eq_true]at hl;obtain⟨h3,h4⟩:=h1.cells hl.1;obtain⟨h5,h6⟩:=repL_flat h2 hl.2;simp only[List.flatMap_cons];refine⟨h3.append h5,fun c hc=>?_⟩;rcases List.mem_append.1 hc with hc|hc
  ·exact h4 c hc
  ·exact h6 c hc
theorem flatMap_len {α β:Type} {sz:Nat} (f:α→List β):∀(l:List α),(∀x∈l,(f x).length=sz)→(l.flatMap f).length=l.length*sz
 |[],_=>by simp
 |x::r,h=>by
  simp only[List.flatMap_cons,List.length_append,List.length_cons];rw[h x (by simp),flatMap_len f r (fun y hy=>h y (by simp[hy])),Nat.add_mul];omega
theorem op_bldSr (hI:Inv B C) (hE:RepE C g a) {t e:TypeId} {n:Nat} {parts:Array (Nat×Operand)} {q:TI} {axs:List AX} (ho:o.op=.buildSlice t n parts)
  (ht:P.underlying t=some (.slice e)) (hq:tI P e=some q) (hz:q.zero.isSome=true) (hx:cXs (parts.map (·.2))=some axs) (hn:parts.toList.map (·.1)=List.range n) (hroom:n*q.size≤1048576)
  (hl:(axs.map (evX g)).all (fun v=>v.cells.length==q.size&&v.cells.all AVal.leaf)=true):Does P o a C.w (Owes B C (.lits q.size (axs.map (evX g)).length ((axs.map (evX g)).flatMap AVal.cells)) []):=by
 have hps:parts.size=n:=by have:=congrArg List.length hn;simpa using this
 subst hps;obtain⟨h1,h2⟩:=bldS_args (C:=C) hE hx hn
 have hl1:∀v∈axs.map (evX g),v.cells.length=q.size∧v.cells.all AVal.leaf=true:=by
  intro v hv;rw[List.all_eq_true]at hl;have:=hl v hv;simpa using this
 have hl2:(axs.map (evX g)).all (fun v=>v.cells.all AVal.leaf)=true:=by
  rw[List.all_eq_true];exact fun v hv=>(hl1 v hv).2
 obtain⟨k1,k2⟩:=repL_flat h1 hl2
 have hsz:∀v∈(parts.toList.map fun p=>a.eval p.2),v.cells.size=q.size:=by
  intro c hc;obtain⟨i,hi⟩:=List.getElem?_of_mem hc;obtain⟨x,hx⟩:∃x,(axs.map (evX g))[i]?=some x:=⟨_,List.getElem?_eq_getElem (by rw[←h1.length];exact (List.getElem?_eq_some_iff.1 hi).1)⟩;obtain⟨c',e1,e2⟩:=h1.get hx;rw[hi]at e1;cases e1;obtain⟨p1,p2⟩:=hl1 x (List.mem_of_getElem? hx);have:=(e2.cells p2).1.length;simpa[p1]using this
 have hll:(parts.toList.map fun p=>a.eval p.2).length=parts.size:=by simp
 obtain⟨out,r1,r2⟩:=zdc7 (P:=P) ht hq hz (vs:=parts.toList.map fun p=>a.eval p.2) hsz (by rw[hll];exact hroom) h2 C.w;rw[←List.flatMap_def]at r1;have:=hI.allocF out e;simp only at this;obtain⟨d1,d2⟩:=this;rw[hll]at r2;have hax:axs.length=parts.size:=by have:=h1.length;simpa using this.symm
 refine .inl ⟨.slice (some ⟨C.w.heap.size,0,none⟩) parts.size parts.size,C.w.alloc (.cells out e),?_,{ w:=C.w.alloc (.cells out e),F:=C.F.add C.w.heap.size out.toList,μ:=C.μ,ρ:=C.ρ },rfl,rfl,d1,d2,?_⟩
 ·simp only[execOp,ho,Sem.run_bind,r2,Result.andThen_ok,Sem.run_pure]
 ·simp only[RepA];refine⟨C.w.heap.size,0,parts.size,out.toList,by simp[hax],by simp[hax],flatMap_len _ _ fun v hv=>(hl1 v hv).1,?_,cellsAt_add _ _ _,?_,?_⟩
  ·have:=k1.grow d2;rw[←r1]at this;exact this
  ·rw[List.all_eq_true];intro x hx;obtain⟨v,hv,hxv⟩:=List.mem_flatMap.1 hx;exact List.all_eq_true.1 (hl1 v hv).2 x hxv
  ·rw[r1];exact k2
theorem zje7 {t e:TypeId} {q:TI} (ht:P.underlying t=some (.slice e)) (hq:tI P e=some q) {z:Value} (hz:∀w,(zeroValue e).run P w=.ok z w) (hzs:z.cells.size=q.size)
  {k k':IntKind} {l c:Int} (hb:0≤l∧l≤c∧q.bytes*c≤room∧c≤room) (w:World):
  ∃out:Array Value,out.toList=(List.replicate c.toNat z.cells.toList).flatten∧out.size=c.toNat*q.size∧
   (Instr.makeSlice t (.int k l) (.int k' c)).run P w=.ok (.slice (some ⟨w.heap.size,0,none⟩) l.toNat c.toNat) (w.alloc (.cells out e)):=by
 obtain⟨i,d,i1,i2,i3,i4,_⟩:=tI_info hq;obtain⟨h0,h1,h2,h3⟩:=hb;have hr:(room:Int)=1099511627776:=rfl;have wl:IntKind.i64.wrap l=l:=IntWalk.i64_in l ⟨by omega,by omega⟩;have wc:IntKind.i64.wrap c=c:=IntWalk.i64_in c ⟨by omega,by omega⟩
 have t1:(decide (c<0)||decide ((i.bytes:Int)*c>2 ^ 48))=false:=by
  rw[←i4];simp;omega
 have t2:(decide (l<0))=false:=by simp;omega
 have t3:(decide (l>c))=false:=by simp;omega
 have hflat:=zeros_flat z.cells c.toNat;rw[hzs]at hflat;refine⟨(Array.range (c.toNat*q.size)).map (fun j=>z.cells[j % z.cells.size]!),by rw[hzs];exact hflat,by simp,?_⟩;unfold Instr.makeSlice;simp only[Sem.run_bind,run_underlying ht,Result.andThen_ok,asInt,asIntOf,Sem.run_pure,run_typeInfo i1,wl,wc,t1,t2,t3,Bool.or_self,Bool.false_eq_true,if_false,run_askRoom,run_sizeOf hq];by_cases hc:c.toNat*q.size=0
 ·have hr0:Array.range 0=#[]:=rfl;simp only[hc,if_true,Sem.run_pure,Result.andThen_ok,newRow,Sem.run_bind,run_newObj,hr0,Array.map_empty];rfl
 ·simp only[hc,if_false,Sem.run_pure,Result.andThen_ok,newRow,Sem.run_bind,run_newObj,hz];rfl
theorem mk_zero {e:TypeId} {q:TI} (hq:tI P e=some q) {zero:List AVal} (hz:q.zero=some zero) {z:Dat} (hd:zrc7 zero=some z) (hw:z.width=q.size):
  ∃v:Value,(∀w,(zeroValue e).run P w=.ok v w)∧v.cells.size=q.size∧∀F,RepD F z v.cells.toList:=by
 obtain⟨v,hv,hc⟩:=tI_zero hq hz;have hrep:∀F,RepD F z v.cells.toList:=fun F=>zeroDat_rep hd hc
 refine⟨v,hv,?_,hrep⟩;have:=(hrep (fun _ _=>none)).length;simpa[hw]using this
theorem op_mkd (hI:Inv B C) (hE:RepE C g a) {t e:TypeId} {l c:Operand} {q:TI} {al ac:AX} {zero:List AVal} {z:Dat} {ln cn:Int} (ho:o.op=.makeSlice t l c) (hl:cX l=some al) (hc:cX c=some ac)
  (ht:P.underlying t=some (.slice e)) (hq:tI P e=some q) (hz:q.zero=some zero) (hln:zmb7 (evX g al)=some ln) (hcn:zmb7 (evX g ac)=some cn)
  (hb:0≤ln∧ln≤cn∧q.bytes*cn≤room∧cn≤room) (hd:zrc7 zero=some z) (hw:z.width=q.size∧1≤q.size):Does P o a C.w (Owes B C (.dat (.sl (List.replicate ln.toNat z))) []):=by
 obtain⟨v,hv,hvs,hrep⟩:=mk_zero hq hz hd hw.1;obtain⟨k,hk⟩:=zab7 hln (zea7 hE hl);obtain⟨k',hk'⟩:=zab7 hcn (zea7 hE hc);obtain⟨out,o1,o2,o3⟩:=zje7 (P:=P) ht hq hv hvs (k:=k) (k':=k') hb C.w;have:=hI.allocF out e;simp only at this;obtain⟨d1,d2⟩:=this;refine .inl ⟨.slice (some ⟨C.w.heap.size,0,none⟩) ln.toNat cn.toNat,C.w.alloc (.cells out e),?_,{ w:=C.w.alloc (.cells out e),F:=C.F.add C.w.heap.size out.toList,μ:=C.μ,ρ:=C.ρ },rfl,rfl,d1,d2,?_⟩
 ·simp only[execOp,ho,hk,hk',Sem.run_bind,o3,Result.andThen_ok,Sem.run_pure]
 ·simp only[RepA];refine zhb7 rfl ?_;simp only[RepD];refine⟨some ⟨C.w.heap.size,0,none⟩,cn.toNat,by simp,by simp;omega,.inr ⟨C.w.heap.size,0,q.size,rfl,?_⟩⟩
  have hfl:FlatD (C.F.add C.w.heap.size out.toList) q.size (List.replicate cn.toNat z) out.toList:=by
   rw[o1,←hw.1];exact znc7 (hrep _) _
  have hrow:=flat_row hfl (cellsAt_add C.F C.w.heap.size out.toList);have:=hrow.take ln.toNat
  rwa [List.take_replicate,Nat.min_eq_left (by omega)]at this
theorem op_mko (hI:Inv B C) (hE:RepE C g a) {t e:TypeId} {l c:Operand} {q:TI} {al ac:AX} {zero:List AVal} {z:Dat} {ln cn:Int} {site nv:Nat} (ho:o.op=.makeSlice t l c) (hl:cX l=some al) (hc:cX c=some ac)
  (ht:P.underlying t=some (.slice e)) (hq:tI P e=some q) (hz:q.zero=some zero) (hln:zmb7 (evX g al)=some ln) (hcn:zmb7 (evX g ac)=some cn)
  (hb:0≤ln∧ln≤cn∧q.bytes*cn≤room∧cn≤room) (hd:zrc7 zero=some z) (hw:z.width=q.size∧1≤q.size) (hid:zwa7 C.ρ (nid site)=some nv):
  Does P o a C.w (Owes B C (.rsl (nid site) nv q.size 0 ln.toNat) [(nid site,.arr q.size nv false (List.replicate ln.toNat z))]):=by
 obtain⟨v,hv,hvs,hrep⟩:=mk_zero hq hz hd hw.1;obtain⟨k,hk⟩:=zab7 hln (zea7 hE hl);obtain⟨k',hk'⟩:=zab7 hcn (zea7 hE hc);obtain⟨out,o1,o2,o3⟩:=zje7 (P:=P) ht hq hv hvs (k:=k) (k':=k') hb C.w;have hlen:(List.replicate ln.toNat z).length=ln.toNat:=by simp
 have:=arr_new hI hid hw.2 (ds:=List.replicate ln.toNat z) (cs:=out) cn.toNat ⟨out,by
  have e1:out.toList=(List.replicate ln.toNat v.cells.toList).flatten++(List.replicate (cn.toNat-ln.toNat) v.cells.toList).flatten:=by
   rw[o1,←List.flatten_append,List.replicate_append_replicate]
   congr 2;omega
  have e2:((List.replicate ln.toNat v.cells.toList).flatten).length=ln.toNat*q.size:=by
   rw[List.length_flatten];simp[hvs]
  rw[hlen,e1,List.take_append_of_le_length (by rw[e2];exact Nat.le_refl _),←e2,List.take_length,←hw.1];exact znc7 (hrep _) _,o2,rfl⟩ (by rw[hlen];omega) e
 rw[hlen]at this;refine .inl ⟨_,_,?_,this⟩;simp only[execOp,ho,hk,hk',Sem.run_bind,o3,Result.andThen_ok,Sem.run_pure]
end
end Go.Am
