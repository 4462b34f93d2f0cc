/- Parts of the proofs of the statement, joined and made short: AmWrite AmStore AmMap AmSound. -/
import Derived.Test.YtgaeajfoiigbkaaGreatDoorP4
import Derived.Laws.BytesArg
import Derived.IntWalk
import Derived.MapFrom
import Derived.Carry
set_option linter.unusedVariables false
set_option linter.unusedSimpArgs false
set_option linter.unusedSectionVars false
namespace Go.Am
variable [Glob]
section
variable {P : Program} {o : Oper} {a : Act} {B : Base} {C : Ctx} {g : Nat → AVal}
theorem flat_bytes {F : Froz} : ∀ {ds : List Dat} {cs : List Value} {s : List UInt8},FlatD F 1 ds cs → zoa7 (ds.map fun | .int .u8 n => some (UInt8.ofNat n.toNat) | _ => none) = some s →
  ∃ ns : List Int,cs = ns.map (Value.int .u8) ∧ s = ns.map fun n => UInt8.ofNat n.toNat
 | [],cs,s,h,hs => by
  simp only [FlatD] at h
  simp [zoa7] at hs
  exact ⟨[],by simp [h],by simp [hs]⟩
 | d :: r,cs,s,h,hs => by
  simp only [FlatD] at h
  obtain ⟨c,cs',rfl,h1,h2,h3⟩:=h
  simp only [List.map_cons] at hs
  cases d with
  | int k n =>
   cases k <;> simp [zoa7] at hs
   case u8 =>
    cases e : zoa7 (r.map fun | .int .u8 n => some (UInt8.ofNat n.toNat) | _ => none) with
    | none => rw [e] at hs; simp at hs
    | some s' =>
     rw [e] at hs
     simp at hs
     subst hs
     obtain ⟨ns,q1,q2⟩:=flat_bytes h3 e
     simp only [RepD] at h2
     exact ⟨n :: ns,by simp [h2,q1],by simp [q2]⟩
  | _ => simp [zoa7] at hs
theorem op_b2s (hI : Inv B C) (hE : RepE C g a) {s d e : TypeId} {x : Operand} {ax : AX} {l : List Dat} {r : List UInt8} (ho : o.op = .convert s d x) (hx : cX x = some ax)
  (hs : P.underlying s = some (.slice e)) (he : P.underlying e = some (.int .u8)) (hd : P.underlying d = some .string)
  (hl : elemsOf C.ρ 1 (evX g ax) = some l) (hr : zoa7 (l.map fun | .int .u8 n => some (UInt8.ofNat n.toNat) | _ => none) = some r) : Does P o a C.w (Owes B C (.dat (.str r)) []):=by
 obtain ⟨p,cap,cs,h1,h2,h3⟩:=elemsOf_rep hI hl (zia7 hE hx)
 obtain ⟨ns,q1,q2⟩:=flat_bytes h2 hr
 refine zka7 hI (val:=.string ⟨r.toArray⟩) ?_ (rep_mk_str C _)
 have hlen:=h2.length
 have hcv : (convert s d (a.eval x)).run P C.w = .ok (.string ⟨r.toArray⟩) C.w:=by
  rw [h1,run_convert_bytes_string C.w s d e p l.length cap hs he hd]
  cases p with
  | none =>
   have : l = []:=by
    cases l with
    | nil => rfl
    | cons x y => obtain ⟨b,o,q,_⟩:=h3 (by simp); cases q
   subst this
   simp only [FlatD] at h2
   subst h2
   have : ns = []:=by simpa using q1.symm
   subst this
   subst q2
   rfl
  | some p =>
   have hload : (loadCells p l.length).run P C.w = .ok (ns.map (Value.int .u8)).toArray C.w:=by
    have hc : cs.length = l.length:=by simpa using hlen
    rw [← hc,← q1]
    refine run_loadCells_list C.w p cs ?_
    intro j v hj
    have hpos : 0 < l.length:=by rw [← hc]; exact Nat.lt_of_le_of_lt (Nat.zero_le _) (List.getElem?_eq_some_iff.1 hj).1
    obtain ⟨b,o,e1,e2⟩:=h3 hpos
    cases e1
    rw [Addr.add_mk]; exact e2 j v hj
   rw [run_bytesToString C.w p l.length cap ns hload,foldl_push_bytes,q2]
   congr 2
   apply ByteArray.ext
   simp
 simp only [execOp,ho,Sem.run_bind,hcv,Result.andThen_ok,Sem.run_pure]
theorem own_new (C : Ctx) (hI : Inv B C) (cs : Array Value) (t : TypeId) (C' : Ctx) (hw : C'.w = C.w.alloc (.cells cs t)) (hF : C'.F = C.F) : OwnOK C' ⟨C.w.heap.size,0,cs.size⟩:=by
 intro j hj
 rw [hw,hF]
 simp only [Nat.zero_add]
 refine ⟨⟨cs[j],by simp [hj]⟩,by simp,?_⟩
 cases e : C.F C.w.heap.size j with
 | none => rfl
 | some v => have:=World.block_lt_of_cell? _ _ (hI.Fw _ _ _ e); simp at this
theorem box_new (hI : Inv B C) {id : Id} (hid : C.ρ id = none) {cells : List AVal} {cs : Array Value} (hr : RepL C cells cs.toList) (hl : cells.all AVal.leaf = true) (t : TypeId) :
  Owes B C (.ref id 0) [(id,.box cells)] (.pointer (some ⟨C.w.heap.size,0,none⟩)) (C.w.alloc (.cells cs t)):=by
 have hlen : cs.size = cells.length:=by simpa using hr.length
 obtain ⟨h1,h2,h3⟩:=hI.allocO (C.w.alloc (.cells cs t)) (Kept.alloc _ _ _ _) id (.box cells) ⟨C.w.heap.size,0,cs.size⟩
  ⟨by simp [hid],by simp [hid],fun A hA => by simp [arrAt,hid] at hA⟩ (.inl (Nat.le_refl _)) (fun _ _ => Nat.le_refl _) (fun C' e1 e2 hg => by
   refine ⟨hlen,hl,own_new C hI cs t C' e1 e2,fun j x hj => ?_⟩
   obtain ⟨c,hc,hx⟩:=hr.get hj
   refine ⟨c,?_,hx.grow hg⟩
   rw [e1]
   simpa using hc)
 refine ⟨_,rfl,h3,h1,h2,?_⟩
 simp only [RepA]
 exact ⟨⟨C.w.heap.size,0,cs.size⟩,by simp [boxAt],by simp⟩
theorem op_box (hI : Inv B C) (hE : RepE C g a) {t : TypeId} {x : Operand} {ax : AX} {site : Nat} (ho : o.op = .box t x) (hx : cX x = some ax)
  (hid : C.ρ (nid site) = none) (hl : (evX g ax).cells.all AVal.leaf = true) : Does P o a C.w (Owes B C (.ref (nid site) 0) [(nid site,.box (evX g ax).cells)]):=by
 have hr:=zia7 hE hx
 have:=box_new hI hid (hr.cells hl).1 hl t
 refine .inl ⟨_,_,?_,this⟩
 simp [execOp,ho,Instr.box,newVar,newRow]
theorem op_alc (hI : Inv B C) {t : TypeId} {q : TI} {zero : List AVal} {site : Nat} (ho : o.op = .alloc t) (hq : tI P t = some q) (hz : q.zero = some zero) (hid : C.ρ (nid site) = none) :
  Does P o a C.w (Owes B C (.ref (nid site) 0) [(nid site,.box zero)]):=by
 obtain ⟨v,hv,hc⟩:=tI_zero hq hz
 obtain ⟨h1,h2,h3⟩:=zof7 (C:=C) hc
 have:=box_new hI hid (cs:=v.cells) h1 h2 t
 refine .inl ⟨_,_,?_,this⟩
 simp [execOp,ho,Instr.alloc,newVar,newRow,hv]
theorem RepL.splice {l : List AVal} {cs : List Value} (h : RepL C l cs) {v : List AVal} {c : List Value} (hv : RepL C v c) (off : Nat) : RepL C (splice l off v) (splice cs off c):=by
 unfold Am.splice
 rw [hv.length]
 exact ((h.take off).append hv).append (h.drop _)
theorem all_splice {l v : List AVal} (h : l.all AVal.leaf = true) (hv : v.all AVal.leaf = true) (off : Nat) : (splice l off v).all AVal.leaf = true:=by
 unfold splice
 rw [List.all_eq_true] at h hv ⊢
 intro x hx
 simp only [List.mem_append] at hx
 rcases hx with (hx | hx) | hx
 ·exact h x (List.mem_of_mem_take hx)
 ·exact hv x hx
 ·exact h x (List.mem_of_mem_drop hx)
theorem RepL.one {l : List AVal} {cs : List Value} (h : RepL C l cs) (hl : l.all AVal.leaf = true) : ∀ c ∈ cs,c.oneCell' = true:=by
 intro c hc
 obtain ⟨i,hi⟩:=List.getElem?_of_mem hc
 obtain ⟨x,hx⟩ : ∃ x,l[i]? = some x:=⟨_,List.getElem?_eq_getElem (by rw [← h.length]; exact (List.getElem?_eq_some_iff.1 hi).1)⟩
 obtain ⟨c',e1,e2⟩:=h.get hx
 rw [hi] at e1
 cases e1
 rw [List.all_eq_true] at hl
 exact (e2.leaf (hl x (List.mem_of_getElem? hx))).1
def All2 {α β : Type} (R : α → β → Prop) : List α → List β → Prop
 | [],[] => True
 | a :: l,b :: r => R a b ∧ All2 R l r
 | _,_ => False
theorem fillE_run (place : Nat → Option (Nat × Nat)) : ∀ (parts : List (Nat × Value)) (aparts : List (Nat × Nat × AVal)) (cells : Array Value) (cs r : List AVal),
  (All2 (fun p q => place p.1 = some (q.1,q.2.1) ∧ RepA C q.2.2 p.2) parts aparts) → RepL C cs cells.toList → cs.all AVal.leaf = true → fillE cs aparts = some r →
  ∃ out,Instr.fill place cells parts = some out ∧ RepL C r out.toList ∧ r.all AVal.leaf = true
 | [],[],cells,cs,r,h2,hr,hl,h => by
  simp only [fillE,Option.some.injEq] at h
  subst h
  exact ⟨cells,rfl,hr,hl⟩
 | [],_ :: _,cells,cs,r,h2,hr,hl,h => h2.elim
 | _ :: _,[],cells,cs,r,h2,hr,hl,h => h2.elim
 | (i,v) :: parts,(off,n,x) :: qs,cells,cs,r,h2,hr,hl,h => by
  obtain ⟨hp,h2⟩:=h2
  simp only [fillE] at h
  split at h
  ·rename_i hc
   obtain ⟨c1,c2,c3⟩:=hc
   have hx:=hp.2.cells c3
   have hvs : v.cells.size = n:=by have:=hx.1.length; rw [c1] at this; simpa using this
   have hcl : cells.size = cs.length:=by simpa using hr.length
   obtain ⟨cells',e1,e2⟩:=fill_step (off:=off) (size:=n) place cells i v parts hp.1 hvs (by omega)
   rw [e1]
   exact fillE_run place parts qs cells' _ r h2 (by rw [e2]; exact hr.splice hx.1 off) (all_splice hl c3 off) h
  ·cases h
theorem partsOf_spec {t : TypeId} {parts : List (Nat × Operand)} {ps : List (Nat × Nat × AX)} (h : partsOf P t parts = some ps) :
  All2 (fun p q => ∃ i,fieldT P t p.1 = some (q.1,i) ∧ i.size = q.2.1 ∧ cX p.2 = some q.2.2) parts ps:=by
 unfold partsOf at h
 induction parts generalizing ps with
 | nil => simp [zoa7] at h; subst h; exact trivial
 | cons p r ih =>
  simp only [List.map_cons] at h
  cases e1 : fieldT P t p.1 with
  | none => simp [zoa7,e1] at h
  | some q =>
   cases e2 : cX p.2 with
   | none => simp [zoa7,e1,e2] at h
   | some x =>
    simp only [e1,e2,zoa7] at h
    split at h
    ·rename_i r' hr'
     simp only [Option.some.injEq] at h
     subst h
     exact ⟨⟨q.2,e1,rfl,e2⟩,ih hr'⟩
    ·cases h
theorem run_mapM_places {fs : List Field} : ∀ (w : World),(∀ fd ∈ fs,∃ q,tI P fd.type = some q) →
  ∃ ps : List (Nat × Nat),(fs.mapM fun fd => (do pure (fd.offset,← sizeOf fd.type) : Sem (Nat × Nat))).run P w = .ok ps w ∧ ps.length = fs.length ∧
   ∀ (i : Nat) (fd : Field) (q : TI),fs[i]? = some fd → tI P fd.type = some q → ps[i]? = some (fd.offset,q.size):=by
 induction fs with
 | nil => intro w _; exact ⟨[],by simp,rfl,by simp⟩
 | cons fd r ih =>
  intro w h
  obtain ⟨q,hq⟩:=h fd (by simp)
  obtain ⟨ps,h1,h2,h3⟩:=ih w (fun x hx => h x (by simp [hx]))
  refine ⟨(fd.offset,q.size) :: ps,?_,by simp [h2],fun i x q' hi hq' => ?_⟩
  ·simp only [List.mapM_cons,Sem.run_bind,run_sizeOf hq,Sem.run_pure,Result.andThen_ok,h1]
  ·cases i with
   | zero => simp at hi; subst hi; rw [hq] at hq'; cases hq'; rfl
   | succ i => simp at hi; simpa using h3 i x q' hi hq'
theorem op_bld (hI : Inv B C) (hE : RepE C g a) {t : TypeId} {parts : Array (Nat × Operand)} {q : TI} {zero cs : List AVal} {ps : List (Nat × Nat × AX)} (ho : o.op = .build t parts) (hq : tI P t = some q) (hz : q.zero = some zero)
  (hps : partsOf P t parts.toList = some ps) (hall : ∃ fs,P.underlying t = some (.struct fs) ∧ ∀ fd ∈ fs.toList,(tI P fd.type).isSome = true)
  (h : fillE zero (ps.map fun p => (p.1,p.2.1,evX g p.2.2)) = some cs) : Does P o a C.w (Owes B C (.agg cs) []):=by
 obtain ⟨v,hv,hc⟩:=tI_zero hq hz
 obtain ⟨z1,z2,z3⟩:=zof7 (C:=C) hc
 obtain ⟨fs,hu,hfs⟩:=hall
 obtain ⟨places,p1,p2,p3⟩:=run_mapM_places (P:=P) (fs:=fs.toList) C.w (fun fd hfd => Option.isSome_iff_exists.1 (hfs fd hfd))
 have hsp:=partsOf_spec hps
 have hf2 : All2 (fun (p : Nat × Value) (q : Nat × Nat × AVal) => (places.toArray[p.1]? = some (q.1,q.2.1)) ∧ RepA C q.2.2 p.2) (parts.toList.map fun p => (p.1,a.eval p.2)) (ps.map fun p => (p.1,p.2.1,evX g p.2.2)):=by
  clear h hps
  generalize parts.toList = L at hsp
  induction L generalizing ps with
  | nil => cases ps with
   | nil => exact trivial
   | cons => exact hsp.elim
  | cons p L ih => cases ps with
   | nil => exact hsp.elim
   | cons q qs =>
    obtain ⟨hp,hsp⟩:=hsp
    refine ⟨?_,ih hsp⟩
    obtain ⟨i,e1,e2,e3⟩:=hp
    obtain ⟨fs',fd,hu',hfd,hti,hoff⟩:=fieldT_spec e1
    rw [hu] at hu'
    cases hu'
    refine ⟨?_,zia7 hE e3⟩
    have:=p3 p.1 fd i (by simpa using hfd) hti
    simpa [hoff,e2] using this
 obtain ⟨out,f1,f2,f3⟩:=fillE_run (C:=C) (places.toArray[·]?) _ _ v.cells zero cs hf2 z1 z2 h
 refine zka7 hI (val:=.agg out) ?_ ?_
 ·have hm : (fs.mapM fun fd => (do pure (fd.offset,← sizeOf fd.type) : Sem (Nat × Nat))).run P C.w = .ok places.toArray C.w:=by
   rw [Array.mapM_eq_mapM_toList]
   simp only [Sem.run_map,p1,Result.andThen_ok]
  have hpl : (parts.map fun p => (p.1,a.eval p.2)).toList = parts.toList.map fun p => (p.1,a.eval p.2):=by simp
  simp only [execOp,ho,Instr.build,Sem.run_bind,hv,Result.andThen_ok,run_underlying hu,hm,Array.toList_map,f1,Sem.run_pure]
 ·simp only [RepA]
  exact ⟨out,rfl,f2,f3,by simpa using f2.one f3⟩
theorem partsA_spec {n size : Nat} : ∀ {parts : List (Nat × Operand)} {ps : List (Nat × Nat × AX)},partsA n size parts = some ps →
  All2 (fun (p : Nat × Operand) (q : Nat × Nat × AX) => p.1 < n ∧ q.1 = p.1 * size ∧ q.2.1 = size ∧ cX p.2 = some q.2.2) parts ps
 | [],ps,h => by
  simp [partsA,zoa7] at h
  subst h
  exact trivial
 | p :: r,ps,h => by
  unfold partsA at h
  simp only [List.map_cons] at h
  cases e : cX p.2 with
  | none => simp [e,zoa7] at h
  | some x =>
   simp only [e] at h
   split at h
   ·rename_i hlt
    unfold zoa7 at h
    cases e2 : partsA n size r with
    | none => unfold partsA at e2; rw [e2] at h; cases h
    | some qs =>
     have e2':=e2
     unfold partsA at e2; rw [e2] at h
     simp only [Option.some.injEq] at h
     subst h
     exact ⟨⟨hlt,rfl,rfl,e⟩,partsA_spec (ps:=qs) e2'⟩
   ·unfold zoa7 at h; cases h
theorem op_bldA (hI : Inv B C) (hE : RepE C g a) {t e : TypeId} {n : Nat} {parts : Array (Nat × Operand)} {q i : TI} {zero cs : List AVal} {ps : List (Nat × Nat × AX)} (ho : o.op = .build t parts) (hu : P.underlying t = some (.array n e)) (hq : tI P t = some q) (hi : tI P e = some i) (hz : q.zero = some zero)
  (hps : partsA n i.size parts.toList = some ps)
  (h : fillE zero (ps.map fun p => (p.1,p.2.1,evX g p.2.2)) = some cs) : Does P o a C.w (Owes B C (.agg cs) []):=by
 obtain ⟨v,hv,hc⟩:=tI_zero hq hz
 obtain ⟨z1,z2,z3⟩:=zof7 (C:=C) hc
 have hsp:=partsA_spec hps
 have hf2 : All2 (fun (p : Nat × Value) (q : Nat × Nat × AVal) => ((fun j => some (j * i.size,i.size)) p.1 = some (q.1,q.2.1)) ∧ RepA C q.2.2 p.2) (parts.toList.map fun p => (p.1,a.eval p.2)) (ps.map fun p => (p.1,p.2.1,evX g p.2.2)):=by
  clear h hps
  generalize parts.toList = L at hsp
  induction L generalizing ps with
  | nil => cases ps with
   | nil => exact trivial
   | cons => exact hsp.elim
  | cons p L ih => cases ps with
   | nil => exact hsp.elim
   | cons q qs =>
    obtain ⟨hp,hsp⟩:=hsp
    refine ⟨?_,ih hsp⟩
    obtain ⟨e0,e1,e2,e3⟩:=hp
    refine ⟨by simp [e1,e2],zia7 hE e3⟩
 obtain ⟨out,f1,f2,f3⟩:=fillE_run (C:=C) (fun j => some (j * i.size,i.size)) _ _ v.cells zero cs hf2 z1 z2 h
 refine zka7 hI (val:=.agg out) ?_ ?_
 ·simp only [execOp,ho,Instr.build,Sem.run_bind,hv,Result.andThen_ok,run_underlying hu,run_sizeOf hi,Array.toList_map,f1,Sem.run_pure]
 ·simp only [RepA]
  exact ⟨out,rfl,f2,f3,by simpa using f2.one f3⟩
theorem zdc7 {t e : TypeId} {q : TI} (ht : P.underlying t = some (.slice e)) (hq : tI P e = some q) (hz : q.zero.isSome = true) {vs : List Value} (hs : ∀ v ∈ vs,v.cells.size = q.size)
  (hroom : vs.length * q.size ≤ 1048576) {parts : Array (Nat × Value)} (hp : parts.toList = (List.range vs.length).zip vs) (w : World) :
  ∃ out : Array Value,out.toList = (vs.map (·.cells.toList)).flatten ∧
   (Instr.buildSlice t vs.length parts).run P w = .ok (.slice (some ⟨w.heap.size,0,none⟩) vs.length vs.length) (w.alloc (.cells out e)):=by
 obtain ⟨z,hzv⟩:=tI_zero_some hq hz
 have main : ∀ (zc : Array Value),∃ out : Array Value,out.toList = (vs.map (·.cells.toList)).flatten ∧
   Instr.fill (fun i => some (i * q.size,q.size)) ((Array.range (vs.length * q.size)).map (zc[· % zc.size]!)) parts.toList = some out:=by
  intro zc
  obtain ⟨out,f1,f2⟩:=fill_row q.size vs 0 ((Array.range (vs.length * q.size)).map (zc[· % zc.size]!)) hs (by simp)
  rw [← List.range_eq_range'] at f1
  exact ⟨out,by simpa using f2,by rw [hp]; exact f1⟩
 have hb : ¬ (vs.length * q.size > 2 ^ 24):=by omega
 by_cases hc : vs.length * q.size = 0
 ·obtain ⟨out,f1,f2⟩:=main #[]
  refine ⟨out,f1,?_⟩
  unfold Instr.buildSlice
  simp only [Sem.run_bind,run_underlying ht,Result.andThen_ok,run_sizeOf hq]
  rw [if_neg hb,if_pos hc]
  simp only [Sem.run_bind,Sem.run_pure,Result.andThen_ok]
  simp only [f2,newRow,Sem.run_bind,run_newObj,Result.andThen_ok,Sem.run_pure]
  rfl
 ·obtain ⟨out,f1,f2⟩:=main z.cells
  refine ⟨out,f1,?_⟩
  unfold Instr.buildSlice
  simp only [Sem.run_bind,run_underlying ht,Result.andThen_ok,run_sizeOf hq]
  rw [if_neg hb,if_neg hc]
  simp only [Sem.run_bind,Sem.run_pure,Result.andThen_ok,hzv]
  simp only [f2,newRow,Sem.run_bind,run_newObj,Result.andThen_ok,Sem.run_pure]
  rfl
theorem bldS_args (hE : RepE C g a) {parts : Array (Nat × Operand)} {axs : List AX} (h : cXs (parts.map (·.2)) = some axs) (hn : parts.toList.map (·.1) = List.range parts.size) :
  RepL C (axs.map (evX g)) (parts.toList.map fun p => a.eval p.2) ∧ (parts.map fun p => (p.1,a.eval p.2)).toList = (List.range (parts.toList.map fun p => a.eval p.2).length).zip (parts.toList.map fun p => a.eval p.2):=by
 refine ⟨?_,?_⟩
 ·have:=cXs_rep (C:=C) hE h
  simpa [Function.comp_def] using this
 ·have e : (parts.map fun p => (p.1,a.eval p.2)).toList = (parts.toList.map (·.1)).zip (parts.toList.map fun p => a.eval p.2):=by
   rw [List.zip_map']; simp
  rw [e,hn]
  simp
theorem op_bldSd (hI : Inv B C) (hE : RepE C g a) {t e : TypeId} {n : Nat} {parts : Array (Nat × Operand)} {q : TI} {axs : List AX} {ds : List Dat} {fs : List Id} (ho : o.op = .buildSlice t n parts)
  (ht : P.underlying t = some (.slice e)) (hq : tI P e = some q) (hz : q.zero.isSome = true) (hx : cXs (parts.map (·.2)) = some axs) (hn : parts.toList.map (·.1) = List.range n) (hroom : n * q.size ≤ 1048576)
  (h : znf7 C.ρ (axs.map (evX g)) = some (ds,fs)) (hw : ds.all (fun d => d.width == q.size) = true) : Does P o a C.w (Owes B C (.dat (.sl ds)) (frz C.ρ fs)):=by
 have hps : parts.size = n:=by have:=congrArg List.length hn; simpa using this
 subst hps
 obtain ⟨h1,h2⟩:=bldS_args (C:=C) hE hx hn
 obtain ⟨C1,c1,c2,c3,c4,c5,c6⟩:=hI.freeze fs
 obtain ⟨f1,f2,f3⟩:=decAll_rep c5.F c6 h h1 hw
 have hl : (parts.toList.map fun p => a.eval p.2).length = parts.size:=by simp
 obtain ⟨out,r1,r2⟩:=zdc7 (P:=P) ht hq hz f2 (by rw [hl]; exact hroom) h2 C.w
 have:=c4.allocF out e
 simp only at this
 obtain ⟨d1,d2⟩:=this
 rw [hl] at r2
 refine .inl ⟨.slice (some ⟨C.w.heap.size,0,none⟩) parts.size parts.size,C.w.alloc (.cells out e),?_,{ w:=C1.w.alloc (.cells out e),F:=C1.F.add C1.w.heap.size out.toList,μ:=C1.μ,ρ:=C1.ρ },?_,c3,d1,c5.trans d2,?_⟩
 ·simp only [execOp,ho,Sem.run_bind,r2,Result.andThen_ok,Sem.run_pure]
 ·rw [c1]
 ·simp only [RepA]
  refine zjb7 rfl ?_
  simp only [RepD]
  have hlen : ds.length = parts.size:=by rw [f3,hl]
  refine ⟨some ⟨C.w.heap.size,0,none⟩,parts.size,by rw [hlen],by omega,.inr ⟨C.w.heap.size,0,q.size,rfl,?_⟩⟩
  refine flat_row (f1.mono d2.F) ?_
  rw [← r1]
  have:=cellsAt_add C1.F C1.w.heap.size out.toList
  rw [c1] at this ⊢
  exact this
theorem arr_new (hI : Inv B C) {id : Id} {nv sz : Nat} (hid : zhb7 C.ρ id = some nv) (hsz : 1 ≤ sz) {ds : List Dat} {cs : Array Value} (cap : Nat) (hr : ∃ tl,FlatD C.F sz ds (cs.toList.take (ds.length * sz)) ∧ cs.size = cap * sz ∧ tl = cs) (hcap : ds.length ≤ cap) (t : TypeId) :
  Owes B C (.rsl id nv sz 0 ds.length) [(id,.arr sz nv false ds)] (.slice (some ⟨C.w.heap.size,0,none⟩) ds.length cap) (C.w.alloc (.cells cs t)):=by
 obtain ⟨_,hf,hsize,_⟩:=hr
 obtain ⟨n1,n2,n3,n4⟩:=newVer_lt hid
 obtain ⟨h1,h2,h3⟩:=hI.allocO (C.w.alloc (.cells cs t)) (Kept.alloc _ _ _ _) id (.arr sz nv false ds) ⟨C.w.heap.size,0,cs.size⟩
  ⟨n1,n4,fun A hA => by
   simp only [arrAt] at hA
   split at hA
   ·rename_i e; simp only [Option.some.injEq] at hA; subst hA; exact n2 _ _ _ _ e
   ·rename_i e; simp only [Option.some.injEq] at hA; subst hA; exact n3 _ _ _ e
   ·cases hA⟩ (.inl (Nat.le_refl _)) (fun _ _ => Nat.le_refl _) (fun C' e1 e2 hg => by
   refine ⟨hsz,⟨cap,hsize,hcap⟩,fun _ => ⟨own_new C hI cs t C' e1 e2,fun i d hd => ?_⟩,fun e => by cases e⟩
   obtain ⟨c,q1,q2,q3⟩:=hf.get hd
   refine ⟨c,q1,RepD.mono hg.F _ _ q2,fun j v hj => ?_⟩
   have:=q3 j v hj
   rw [e1]
   rw [List.getElem?_take] at this
   split at this
   ·simpa using this
   ·cases this)
 refine ⟨_,rfl,h3,h1,h2,?_⟩
 simp only [RepA]
 refine ⟨⟨nv,sz,ds.length,⟨C.w.heap.size,0,cs.size⟩⟩,some ⟨C.w.heap.size,0,none⟩,cap,by simp [arrAt],Nat.le_refl _,rfl,hcap,by simp,fun _ => ⟨rfl,by simp,by simpa using hsize,by simp⟩⟩
theorem op_bldSo (hI : Inv B C) (hE : RepE C g a) {t e : TypeId} {n site nv : Nat} {parts : Array (Nat × Operand)} {q : TI} {axs : List AX} {ds : List Dat} {fs : List Id} (ho : o.op = .buildSlice t n parts)
  (ht : P.underlying t = some (.slice e)) (hq : tI P e = some q) (hq1 : 1 ≤ q.size) (hz : q.zero.isSome = true) (hx : cXs (parts.map (·.2)) = some axs) (hn : parts.toList.map (·.1) = List.range n) (hroom : n * q.size ≤ 1048576)
  (h : znf7 C.ρ (axs.map (evX g)) = some (ds,fs)) (hw : ds.all (fun d => d.width == q.size) = true) (hid : zhb7 C.ρ (nid site) = some nv) (hfs : nid site ∉ fs) :
  Does P o a C.w (Owes B C (.rsl (nid site) nv q.size 0 ds.length) (frz C.ρ fs ++ [(nid site,.arr q.size nv false ds)])):=by
 have hps : parts.size = n:=by have:=congrArg List.length hn; simpa using this
 subst hps
 obtain ⟨h1,h2⟩:=bldS_args (C:=C) hE hx hn
 obtain ⟨C1,c1,c2,c3,c4,c5,c6⟩:=hI.freeze fs
 obtain ⟨f1,f2,f3⟩:=decAll_rep c5.F c6 h h1 hw
 have hl : (parts.toList.map fun p => a.eval p.2).length = parts.size:=by simp
 obtain ⟨out,r1,r2⟩:=zdc7 (P:=P) ht hq hz f2 (by rw [hl]; exact hroom) h2 C.w
 have hlen : ds.length = parts.size:=by rw [f3,hl]
 have hfz : ∀ (fs : List Id),nid site ∉ fs → ∀ ρ : Look,updL ρ (frz C.ρ fs) (nid site) = ρ (nid site):=by
  intro fs
  induction fs with
  | nil => intro _ ρ; rfl
  | cons i r ih =>
   intro hn ρ
   simp only [List.mem_cons,not_or] at hn
   simp only [frz]
   split
   ·simp only [updL]
    rw [ih hn.2]
    rw [if_neg (fun e => hn.1 e.symm)]
   ·exact ih hn.2 ρ
 have hid1 : zhb7 C1.ρ (nid site) = some nv:=by
  rw [c3]
  unfold zhb7 at hid ⊢
  rw [hfz fs hfs]; exact hid
 have hsize : out.size = parts.size * q.size:=by
  have:=f1.length
  rw [← r1] at this
  simpa [hlen] using this
 obtain ⟨C',w1,w2,w3,w4,w5⟩:=arr_new c4 hid1 hq1 (ds:=ds) (cs:=out) parts.size ⟨out,by
  rw [List.take_of_length_le (by simp [hsize,hlen])]; rw [r1]; exact f1,hsize,rfl⟩ (by omega) e
 rw [hl] at r2
 refine .inl ⟨.slice (some ⟨C.w.heap.size,0,none⟩) parts.size parts.size,C.w.alloc (.cells out e),?_,C',?_,?_,w3,c5.trans w4,?_⟩
 ·simp only [execOp,ho,Sem.run_bind,r2,Result.andThen_ok,Sem.run_pure]
 ·rw [w1,c1]
 ·rw [w2,c3,zte7]
 ·rw [c1,hlen] at w5
  rw [hlen]
  exact w5
theorem repL_flat {C : Ctx} : ∀ {l : List AVal} {vs : List Value},RepL C l vs → l.all (fun v => v.cells.all AVal.leaf) = true →
  RepL C (l.flatMap AVal.cells) (vs.flatMap fun v => v.cells.toList) ∧ ∀ c ∈ vs.flatMap (fun v => v.cells.toList),c.oneCell' = true
 | [],vs,h,_ => by
  simp only [RepL] at h
  subst h
  simp [RepL]
 | x :: r,vs,h,hl => by
  simp only [RepL] at h
  obtain ⟨c,cs',rfl,h1,h2⟩:=h
  simp only [List.all_cons,Bool.and_eq_true] at hl
  obtain ⟨h3,h4⟩:=h1.cells hl.1
  obtain ⟨h5,h6⟩:=repL_flat h2 hl.2
  simp only [List.flatMap_cons]
  refine ⟨h3.append h5,fun c hc => ?_⟩
  rcases List.mem_append.1 hc with hc | hc
  ·exact h4 c hc
  ·exact h6 c hc
theorem flatMap_len {α β : Type} {sz : Nat} (f : α → List β) : ∀ (l : List α),(∀ x ∈ l,(f x).length = sz) → (l.flatMap f).length = l.length * sz
 | [],_ => by simp
 | x :: r,h => by
  simp only [List.flatMap_cons,List.length_append,List.length_cons]
  rw [h x (by simp),flatMap_len f r (fun y hy => h y (by simp [hy])),Nat.add_mul]
  omega
theorem op_bldSr (hI : Inv B C) (hE : RepE C g a) {t e : TypeId} {n : Nat} {parts : Array (Nat × Operand)} {q : TI} {axs : List AX} (ho : o.op = .buildSlice t n parts)
  (ht : P.underlying t = some (.slice e)) (hq : tI P e = some q) (hz : q.zero.isSome = true) (hx : cXs (parts.map (·.2)) = some axs) (hn : parts.toList.map (·.1) = List.range n) (hroom : n * q.size ≤ 1048576)
  (hl : (axs.map (evX g)).all (fun v => v.cells.length == q.size && v.cells.all AVal.leaf) = true) : Does P o a C.w (Owes B C (.lits q.size (axs.map (evX g)).length ((axs.map (evX g)).flatMap AVal.cells)) []):=by
 have hps : parts.size = n:=by have:=congrArg List.length hn; simpa using this
 subst hps
 obtain ⟨h1,h2⟩:=bldS_args (C:=C) hE hx hn
 have hl1 : ∀ v ∈ axs.map (evX g),v.cells.length = q.size ∧ v.cells.all AVal.leaf = true:=by
  intro v hv
  rw [List.all_eq_true] at hl
  have:=hl v hv
  simpa using this
 have hl2 : (axs.map (evX g)).all (fun v => v.cells.all AVal.leaf) = true:=by
  rw [List.all_eq_true]; exact fun v hv => (hl1 v hv).2
 obtain ⟨k1,k2⟩:=repL_flat h1 hl2
 have hsz : ∀ v ∈ (parts.toList.map fun p => a.eval p.2),v.cells.size = q.size:=by
  intro c hc
  obtain ⟨i,hi⟩:=List.getElem?_of_mem hc
  obtain ⟨x,hx⟩ : ∃ x,(axs.map (evX g))[i]? = some x:=⟨_,List.getElem?_eq_getElem (by rw [← h1.length]; exact (List.getElem?_eq_some_iff.1 hi).1)⟩
  obtain ⟨c',e1,e2⟩:=h1.get hx
  rw [hi] at e1
  cases e1
  obtain ⟨p1,p2⟩:=hl1 x (List.mem_of_getElem? hx)
  have:=(e2.cells p2).1.length
  simpa [p1] using this
 have hll : (parts.toList.map fun p => a.eval p.2).length = parts.size:=by simp
 obtain ⟨out,r1,r2⟩:=zdc7 (P:=P) ht hq hz (vs:=parts.toList.map fun p => a.eval p.2) hsz (by rw [hll]; exact hroom) h2 C.w
 rw [← List.flatMap_def] at r1
 have:=hI.allocF out e
 simp only at this
 obtain ⟨d1,d2⟩:=this
 rw [hll] at r2
 have hax : axs.length = parts.size:=by have:=h1.length; simpa using this.symm
 refine .inl ⟨.slice (some ⟨C.w.heap.size,0,none⟩) parts.size parts.size,C.w.alloc (.cells out e),?_,{ w:=C.w.alloc (.cells out e),F:=C.F.add C.w.heap.size out.toList,μ:=C.μ,ρ:=C.ρ },rfl,rfl,d1,d2,?_⟩
 ·simp only [execOp,ho,Sem.run_bind,r2,Result.andThen_ok,Sem.run_pure]
 ·simp only [RepA]
  refine ⟨C.w.heap.size,0,parts.size,out.toList,by simp [hax],by simp [hax],flatMap_len _ _ fun v hv => (hl1 v hv).1,?_,cellsAt_add _ _ _,?_,?_⟩
  ·have:=k1.grow d2
   rw [← r1] at this
   exact this
  ·rw [List.all_eq_true]
   intro x hx
   obtain ⟨v,hv,hxv⟩:=List.mem_flatMap.1 hx
   exact List.all_eq_true.1 (hl1 v hv).2 x hxv
  ·rw [r1]; exact k2
theorem zde7 {t e : TypeId} {q : TI} (ht : P.underlying t = some (.slice e)) (hq : tI P e = some q) {z : Value} (hz : ∀ w,(zeroValue e).run P w = .ok z w) (hzs : z.cells.size = q.size)
  {k k' : IntKind} {l c : Int} (hb : 0 ≤ l ∧ l ≤ c ∧ q.bytes * c ≤ room ∧ c ≤ room) (w : World) :
  ∃ out : Array Value,out.toList = (List.replicate c.toNat z.cells.toList).flatten ∧ out.size = c.toNat * q.size ∧
   (Instr.makeSlice t (.int k l) (.int k' c)).run P w = .ok (.slice (some ⟨w.heap.size,0,none⟩) l.toNat c.toNat) (w.alloc (.cells out e)):=by
 obtain ⟨i,d,i1,i2,i3,i4,_⟩:=tI_info hq
 obtain ⟨h0,h1,h2,h3⟩:=hb
 have hr : (room : Int) = 1099511627776:=rfl
 have wl : IntKind.i64.wrap l = l:=IntWalk.i64_in l ⟨by omega,by omega⟩
 have wc : IntKind.i64.wrap c = c:=IntWalk.i64_in c ⟨by omega,by omega⟩
 have t1 : (decide (c < 0) || decide ((i.bytes : Int) * c > 2 ^ 48)) = false:=by
  rw [← i4]; simp; omega
 have t2 : (decide (l < 0)) = false:=by simp; omega
 have t3 : (decide (l > c)) = false:=by simp; omega
 have hflat:=zrf7 z.cells c.toNat
 rw [hzs] at hflat
 refine ⟨(Array.range (c.toNat * q.size)).map (fun j => z.cells[j % z.cells.size]!),by rw [hzs]; exact hflat,by simp,?_⟩
 unfold Instr.makeSlice
 simp only [Sem.run_bind,run_underlying ht,Result.andThen_ok,asInt,asIntOf,Sem.run_pure,run_typeInfo i1,wl,wc,t1,t2,t3,Bool.or_self,Bool.false_eq_true,if_false,run_askRoom,run_sizeOf hq]
 by_cases hc : c.toNat * q.size = 0
 ·have hr0 : Array.range 0 = #[]:=rfl
  simp only [hc,if_true,Sem.run_pure,Result.andThen_ok,newRow,Sem.run_bind,run_newObj,hr0,Array.map_empty]
  rfl
 ·simp only [hc,if_false,Sem.run_pure,Result.andThen_ok,newRow,Sem.run_bind,run_newObj,hz]
  rfl
theorem mk_zero {e : TypeId} {q : TI} (hq : tI P e = some q) {zero : List AVal} (hz : q.zero = some zero) {z : Dat} (hd : zrc7 zero = some z) (hw : z.width = q.size) :
  ∃ v : Value,(∀ w,(zeroValue e).run P w = .ok v w) ∧ v.cells.size = q.size ∧ ∀ F,RepD F z v.cells.toList:=by
 obtain ⟨v,hv,hc⟩:=tI_zero hq hz
 have hrep : ∀ F,RepD F z v.cells.toList:=fun F => zeroDat_rep hd hc
 refine ⟨v,hv,?_,hrep⟩
 have:=(hrep (fun _ _ => none)).length
 simpa [hw] using this
theorem op_mkd (hI : Inv B C) (hE : RepE C g a) {t e : TypeId} {l c : Operand} {q : TI} {al ac : AX} {zero : List AVal} {z : Dat} {ln cn : Int} (ho : o.op = .makeSlice t l c) (hl : cX l = some al) (hc : cX c = some ac)
  (ht : P.underlying t = some (.slice e)) (hq : tI P e = some q) (hz : q.zero = some zero) (hln : zmb7 (evX g al) = some ln) (hcn : zmb7 (evX g ac) = some cn)
  (hb : 0 ≤ ln ∧ ln ≤ cn ∧ q.bytes * cn ≤ room ∧ cn ≤ room) (hd : zrc7 zero = some z) (hw : z.width = q.size ∧ 1 ≤ q.size) : Does P o a C.w (Owes B C (.dat (.sl (List.replicate ln.toNat z))) []):=by
 obtain ⟨v,hv,hvs,hrep⟩:=mk_zero hq hz hd hw.1
 obtain ⟨k,hk⟩:=zza7 hln (zia7 hE hl)
 obtain ⟨k',hk'⟩:=zza7 hcn (zia7 hE hc)
 obtain ⟨out,o1,o2,o3⟩:=zde7 (P:=P) ht hq hv hvs (k:=k) (k':=k') hb C.w
 have:=hI.allocF out e
 simp only at this
 obtain ⟨d1,d2⟩:=this
 refine .inl ⟨.slice (some ⟨C.w.heap.size,0,none⟩) ln.toNat cn.toNat,C.w.alloc (.cells out e),?_,{ w:=C.w.alloc (.cells out e),F:=C.F.add C.w.heap.size out.toList,μ:=C.μ,ρ:=C.ρ },rfl,rfl,d1,d2,?_⟩
 ·simp only [execOp,ho,hk,hk',Sem.run_bind,o3,Result.andThen_ok,Sem.run_pure]
 ·simp only [RepA]
  refine zjb7 rfl ?_
  simp only [RepD]
  refine ⟨some ⟨C.w.heap.size,0,none⟩,cn.toNat,by simp,by simp; omega,.inr ⟨C.w.heap.size,0,q.size,rfl,?_⟩⟩
  have hfl : FlatD (C.F.add C.w.heap.size out.toList) q.size (List.replicate cn.toNat z) out.toList:=by
   rw [o1,← hw.1]
   exact zoc7 (hrep _) _
  have hrow:=flat_row hfl (cellsAt_add C.F C.w.heap.size out.toList)
  have:=hrow.take ln.toNat
  rwa [List.take_replicate,Nat.min_eq_left (by omega)] at this
theorem op_mko (hI : Inv B C) (hE : RepE C g a) {t e : TypeId} {l c : Operand} {q : TI} {al ac : AX} {zero : List AVal} {z : Dat} {ln cn : Int} {site nv : Nat} (ho : o.op = .makeSlice t l c) (hl : cX l = some al) (hc : cX c = some ac)
  (ht : P.underlying t = some (.slice e)) (hq : tI P e = some q) (hz : q.zero = some zero) (hln : zmb7 (evX g al) = some ln) (hcn : zmb7 (evX g ac) = some cn)
  (hb : 0 ≤ ln ∧ ln ≤ cn ∧ q.bytes * cn ≤ room ∧ cn ≤ room) (hd : zrc7 zero = some z) (hw : z.width = q.size ∧ 1 ≤ q.size) (hid : zhb7 C.ρ (nid site) = some nv) :
  Does P o a C.w (Owes B C (.rsl (nid site) nv q.size 0 ln.toNat) [(nid site,.arr q.size nv false (List.replicate ln.toNat z))]):=by
 obtain ⟨v,hv,hvs,hrep⟩:=mk_zero hq hz hd hw.1
 obtain ⟨k,hk⟩:=zza7 hln (zia7 hE hl)
 obtain ⟨k',hk'⟩:=zza7 hcn (zia7 hE hc)
 obtain ⟨out,o1,o2,o3⟩:=zde7 (P:=P) ht hq hv hvs (k:=k) (k':=k') hb C.w
 have hlen : (List.replicate ln.toNat z).length = ln.toNat:=by simp
 have:=arr_new hI hid hw.2 (ds:=List.replicate ln.toNat z) (cs:=out) cn.toNat ⟨out,by
  have e1 : out.toList = (List.replicate ln.toNat v.cells.toList).flatten ++ (List.replicate (cn.toNat - ln.toNat) v.cells.toList).flatten:=by
   rw [o1,← List.flatten_append,List.replicate_append_replicate]
   congr 2; omega
  have e2 : ((List.replicate ln.toNat v.cells.toList).flatten).length = ln.toNat * q.size:=by
   rw [List.length_flatten]; simp [hvs]
  rw [hlen,e1,List.take_append_of_le_length (by rw [e2]; exact Nat.le_refl _),← e2,List.take_length,← hw.1]
  exact zoc7 (hrep _) _,o2,rfl⟩ (by rw [hlen]; omega) e
 rw [hlen] at this
 refine .inl ⟨_,_,?_,this⟩
 simp only [execOp,ho,hk,hk',Sem.run_bind,o3,Result.andThen_ok,Sem.run_pure]
end
end Go.Am

namespace Go.Am
variable [Glob]
theorem splice_get {α : Type} {l v : List α} {off : Nat} (h : off + v.length ≤ l.length) (j : Nat) :
  (splice l off v)[j]? = if j < off then l[j]? else if j < off + v.length then v[j - off]? else l[j]?:=by
 unfold splice
 have e1 : (l.take off).length = off:=by simp; omega
 by_cases h1 : j < off
 ·rw [if_pos h1,List.append_assoc,List.getElem?_append_left (by omega),List.getElem?_take,if_pos h1]
 ·rw [if_neg h1]
  by_cases h2 : j < off + v.length
  ·rw [if_pos h2,List.getElem?_append_left (by simp [e1]; omega),List.getElem?_append_right (by omega),e1]
  ·rw [if_neg h2,List.getElem?_append_right (by simp [e1]; omega),List.getElem?_drop]
   congr 1
   simp [e1]; omega
section
variable {P : Program} {o : Oper} {a : Act} {B : Base} {C : Ctx} {g : Nat → AVal}
theorem setCells_cell {w : World} {b o : Nat} {vs : List Value} (hc : ∀ j,j < vs.length → ∃ v,w.cell? ⟨b,o + j,none⟩ = some v) (x : Nat) :
  (w.setCells b o vs).cell? ⟨b,x,none⟩ = if o ≤ x ∧ x < o + vs.length then vs[x - o]? else w.cell? ⟨b,x,none⟩:=by
 by_cases h : o ≤ x ∧ x < o + vs.length
 ·rw [if_pos h]
  have hlt : x - o < vs.length:=by omega
  have:=World.cell?_setCells_in b vs o w (fun j hj => by obtain ⟨v,hv⟩:=hc j hj; simp [hv]) (x - o) hlt
  rw [show o + (x - o) = x by omega] at this
  rw [this,List.getElem?_eq_getElem hlt]
 ·rw [if_neg h]
  exact World.cell?_setCells_out b vs o w ⟨b,x,none⟩ (fun _ _ => by simp; omega)
theorem rows_flat {sz : Nat} {Q : Nat → AVal → Prop} : ∀ {es : List (List AVal)},(∀ row ∈ es,row.length = sz) →
  ((∀ (i : Nat) (row : List AVal),es[i]? = some row → ∀ (j : Nat) (a : AVal),row[j]? = some a → Q (i * sz + j) a) ↔ ∀ (k : Nat) (a : AVal),es.flatten[k]? = some a → Q k a)
 | [],h => by simp
 | row :: r,h => by
  have hl : row.length = sz:=h row (by simp)
  have ih:=rows_flat (Q:=fun k a => Q (sz + k) a) (es:=r) fun x hx => h x (by simp [hx])
  constructor
  ·intro hq k a hk
   rw [List.flatten_cons] at hk
   by_cases hlt : k < sz
   ·rw [List.getElem?_append_left (by omega)] at hk
    simpa using hq 0 row rfl k a hk
   ·rw [List.getElem?_append_right (by omega)] at hk
    have:=ih.1 (fun i row' hi j a hj => by
     have:=hq (i + 1) row' (by simpa using hi) j a hj
     rwa [show (i + 1) * sz + j = sz + (i * sz + j) by rw [Nat.add_mul]; omega] at this) (k - row.length) a hk
    rwa [show sz + (k - row.length) = k by omega] at this
  ·intro hq i row' hi j a hj
   cases i with
   | zero =>
    simp at hi
    subst hi
    have : j < row.length:=(List.getElem?_eq_some_iff.1 hj).1
    simpa using hq j a (by rw [List.flatten_cons,List.getElem?_append_left this]; exact hj)
   | succ i =>
    have:=ih.2 (fun k a hk => hq (sz + k) a (by
     rw [List.flatten_cons,List.getElem?_append_right (by omega)]
     rwa [show sz + k - row.length = k by omega])) i row' (by simpa using hi) j a hj
    rwa [show sz + (i * sz + j) = (i + 1) * sz + j by rw [Nat.add_mul]; omega] at this
theorem zyb7 {sz : Nat} : ∀ {es : List (List AVal)},(∀ row ∈ es,row.length = sz) → es.flatten.length = es.length * sz
 | [],_ => by simp
 | row :: r,h => by
  rw [List.flatten_cons,List.length_append,h row (by simp),zyb7 fun x hx => h x (by simp [hx]),List.length_cons,Nat.add_mul]
  omega
theorem rarr_ok {C : Ctx} {L : Loc} {sz ver : Nat} {es : List (List AVal)} : ObjOK C L (.rarr sz ver es) ↔
  (1 ≤ sz ∧ (∃ cap,L.n = cap * sz ∧ es.length ≤ cap) ∧ (∀ row ∈ es,row.length = sz) ∧ es.flatten.all AVal.leaf = true ∧ OwnOK C L ∧
   ∀ (k : Nat) (a : AVal),es.flatten[k]? = some a → ∃ v,C.w.cell? ⟨L.b,L.o + k,none⟩ = some v ∧ RepA C a v):=by
 simp only [ObjOK]
 constructor
 ·rintro ⟨h1,h2,h3,h4,h5⟩
  refine ⟨h1,h2,fun row hr => (h3 row hr).1,?_,h4,(rows_flat fun row hr => (h3 row hr).1).1 fun i row hi j a hj => ?_⟩
  ·rw [List.all_eq_true]
   intro x hx
   obtain ⟨row,hr,hx⟩:=List.mem_flatten.1 hx
   exact List.all_eq_true.1 (h3 row hr).2 x hx
  ·have:=h5 i row hi j a hj
   rwa [Nat.add_assoc] at this
 ·rintro ⟨h1,h2,h3,h3',h4,h5⟩
  refine ⟨h1,h2,fun row hr => ⟨h3 row hr,?_⟩,h4,fun i row hi j a hj => ?_⟩
  ·rw [List.all_eq_true]
   exact fun x hx => List.all_eq_true.1 h3' x (List.mem_flatten.2 ⟨row,hr,hx⟩)
  ·have:=(rows_flat h3).2 h5 i row hi j a hj
   rwa [← Nat.add_assoc] at this
theorem chunk_spec {α : Type} {sz : Nat} : ∀ (n : Nat) {l : List α},l.length = n * sz → (chunk sz n l).length = n ∧ (chunk sz n l).flatten = l ∧ ∀ row ∈ chunk sz n l,row.length = sz
 | 0,l,h => by
  have : l = []:=by apply List.eq_nil_of_length_eq_zero; omega
  subst this
  simp [chunk]
 | n + 1,l,h => by
  rw [Nat.add_mul] at h
  obtain ⟨h1,h2,h3⟩:=chunk_spec (sz:=sz) n (l:=l.drop sz) (by simp; omega)
  refine ⟨by simp [chunk,h1],by simp [chunk,h2],fun row hr => ?_⟩
  simp only [chunk,List.mem_cons] at hr
  rcases hr with rfl | hr
  ·simp; omega
  ·exact h3 row hr
theorem Inv.write (hI : Inv B C) {id : Id} {ob ob' : Obj} (h : C.ρ id = some ob) (how : ob.own = true) (off : Nat) (vs : List Value) (hfit : off + vs.length ≤ (C.μ id).n)
  (hkind : match ob,ob' with
   | .box _,.box _ => True
   | .arr sz v _ es,.arr sz' v' _ es' => v ≤ v' ∧ (v = v' → sz = sz' ∧ es.length ≤ es'.length)
   | .rarr sz v es,.rarr sz' v' es' => v ≤ v' ∧ (v = v' → sz = sz' ∧ es.length ≤ es'.length)
   | _,_ => False)
  (hobj : ∀ (C' : Ctx),C'.w = C.w.setCells (C.μ id).b ((C.μ id).o + off) vs → C'.F = C.F → Grow C C' → OwnOK C' (C.μ id) → ObjOK C' (C.μ id) ob') :
  let C' : Ctx:={ w:=C.w.setCells (C.μ id).b ((C.μ id).o + off) vs,F:=C.F,μ:=C.μ,ρ:=updL C.ρ [(id,ob')] }
  Inv B C' ∧ Grow C C':=by
 intro C'
 have hown:=(hI.objs id ob h).ownOK how
 have hg : Grow C C':=by
  refine ⟨fun _ _ _ h => h,fun i L _ hb => ?_,fun i A _ ha => ?_,fun i b _ hb => ?_⟩
  ·by_cases e : id = i
   ·subst e
    cases ob <;> simp [boxAt,h] at hb
    case box cs => cases ob' <;> simp at hkind; simpa [boxAt,C',updL] using hb
   ·simpa [boxAt,C',updL,e] using hb
  ·by_cases e : id = i
   ·subst e
    cases ob with
    | box cs => simp [arrAt,h] at ha
    | arr sz v fz es =>
     simp only [arrAt,h,Option.some.injEq] at ha
     subst ha
     cases ob' with
     | arr sz' v' fz' es' => exact ⟨⟨v',sz',es'.length,C.μ id⟩,by simp [arrAt,C',updL],hkind.1,fun e => ⟨(hkind.2 e).1.symm,rfl,(hkind.2 e).2⟩⟩
     | box cs => exact hkind.elim
     | rarr sz' v' es' => exact hkind.elim
     | blk x => exact hkind.elim
    | blk x => simp [Obj.own] at how
    | rarr sz v es =>
     simp only [arrAt,h,Option.some.injEq] at ha
     subst ha
     cases ob' with
     | rarr sz' v' es' => exact ⟨⟨v',sz',es'.length,C.μ id⟩,by simp [arrAt,C',updL],hkind.1,fun e => ⟨(hkind.2 e).1.symm,rfl,(hkind.2 e).2⟩⟩
     | box cs => exact hkind.elim
     | arr sz' v' fz' es' => exact hkind.elim
     | blk x => exact hkind.elim
   ·exact ⟨A,by simpa [arrAt,C',updL,e] using ha,Nat.le_refl _,fun _ => ⟨rfl,rfl,Nat.le_refl _⟩⟩
  ·by_cases e : id = i
   ·subst e
    cases ob <;> simp [blkAt,h] at hb
    simp [Obj.own] at how
   ·simpa [blkAt,C',updL,e] using hb
 refine ⟨?_,hg⟩
 let T : Cells:=fun b x => b = (C.μ id).b ∧ (C.μ id).o + off ≤ x ∧ x < (C.μ id).o + off + vs.length
 refine hI.step id T ?_ ?_ (fun b o v hv => .inl hv) (fun b o v hv e => by simp only [C'] at hv; rw [e] at hv; cases hv) ?_ hg ?_ ?_ (fun x hx => by
  have : ob' = .blk x:=by simpa [C',updL] using hx
  subst this
  cases ob <;> exact hkind.elim)
 ·rintro b x ⟨rfl,h1,h2⟩
  exact ⟨ob,h,how,x - (C.μ id).o,by omega,rfl,by omega⟩
 ·exact Kept.setCells _ _ _ _ _ fun j hj => ⟨rfl,by omega,by omega⟩
 ·intro i hi
  refine ⟨?_,rfl⟩
  simp only [C',updL]
  rw [if_neg (fun e => hi e.symm)]
 ·intro o' ho'
  have : o' = ob':=by simpa [C',updL] using ho'.symm
  subst this
  refine hobj C' rfl rfl hg ?_
  intro j hj
  obtain ⟨⟨v,hv⟩,hf,hF⟩:=hown j hj
  refine ⟨?_,?_,hF⟩
  ·have:=setCells_cell (w:=C.w) (b:=(C.μ id).b) (o:=(C.μ id).o + off) (vs:=vs) (fun j hj => by
    obtain ⟨⟨v,hv⟩,_⟩:=hown (off + j) (by omega)
    exact ⟨v,by rwa [← Nat.add_assoc] at hv⟩) ((C.μ id).o + j)
   show ∃ v,(C.w.setCells (C.μ id).b ((C.μ id).o + off) vs).cell? ⟨(C.μ id).b,(C.μ id).o + j,none⟩ = some v
   rw [this]
   split
   ·rename_i hc
    exact ⟨vs[(C.μ id).o + j - ((C.μ id).o + off)],List.getElem?_eq_getElem (by omega)⟩
   ·exact ⟨v,hv⟩
  ·show (C.w.setCells (C.μ id).b ((C.μ id).o + off) vs).frozen? _ = false
   rw [World.frozen?_setCells]; exact hf
 ·intro o' ho' _
  exact .inr (.inr ⟨ob,h,how,rfl⟩)
theorem zod7 (hI : Inv B C) {id : Id} {ob : Obj} (h : C.ρ id = some ob) (how : ob.own = true) {off : Nat} {vs : List Value} (hfit : off + vs.length ≤ (C.μ id).n) (x : Nat) :
  (C.w.setCells (C.μ id).b ((C.μ id).o + off) vs).cell? ⟨(C.μ id).b,(C.μ id).o + x,none⟩ = if off ≤ x ∧ x < off + vs.length then vs[x - off]? else C.w.cell? ⟨(C.μ id).b,(C.μ id).o + x,none⟩:=by
 have hown:=(hI.objs id ob h).ownOK how
 rw [setCells_cell (fun j hj => by
  obtain ⟨⟨v,hv⟩,_⟩:=hown (off + j) (by omega)
  exact ⟨v,by rwa [← Nat.add_assoc] at hv⟩)]
 by_cases hc : off ≤ x ∧ x < off + vs.length
 ·rw [if_pos hc,if_pos (by omega)]
  congr 1; omega
 ·rw [if_neg hc,if_neg (by omega)]
theorem run_write (hI : Inv B C) {id : Id} {ob : Obj} (h : C.ρ id = some ob) (how : ob.own = true) {off : Nat} {vs : List Value} (hfit : off + vs.length ≤ (C.μ id).n) (h1 : ∀ v ∈ vs,v.oneCell' = true) :
  (storeCells ⟨(C.μ id).b,(C.μ id).o + off,none⟩ vs).run P C.w = .ok () (C.w.setCells (C.μ id).b ((C.μ id).o + off) vs):=by
 have hown:=(hI.objs id ob h).ownOK how
 have:=run_storeCells_cells (P:=P) (C.μ id).b ((C.μ id).o + off) vs 0 C.w (fun j hj => by
   obtain ⟨⟨v,hv⟩,_⟩:=hown (off + j) (by omega)
   rw [show (C.μ id).o + off + 0 + j = (C.μ id).o + (off + j) by omega,hv]; rfl)
  (fun j hj => by
   obtain ⟨_,hf,_⟩:=hown (off + j) (by omega)
   rwa [show (C.μ id).o + off + 0 + j = (C.μ id).o + (off + j) by omega]) h1
 simpa using this
theorem zzc7 {ρ : Look} {i : Id} : ∀ (fs : List Id),i ∉ fs → ∀ ρ' : Look,updL ρ' (frz ρ fs) i = ρ' i
 | [],_,ρ' => rfl
 | j :: r,h,ρ' => by
  simp only [List.mem_cons,not_or] at h
  simp only [frz]
  split
  ·simp only [updL]
   rw [zzc7 r h.2,if_neg (fun e => h.1 e.symm)]
  ·exact zzc7 r h.2 ρ'
theorem run_storeVar' {t : TypeId} {q : TI} (hq : tI P t = some q) {b x : Nat} {v : Value} (hs : v.cells.size = q.size) {w w' : World} (hr : (storeCells ⟨b,x,none⟩ v.cells.toList).run P w = .ok () w') :
  (storeVar t ⟨b,x,none⟩ v).run P w = .ok () w':=by
 unfold storeVar
 simp only [Sem.run_bind,run_sizeOf hq,Result.andThen_ok,hs,ne_eq,not_true_eq_false,if_false,hr]
theorem op_st' (hI : Inv B C) {t : TypeId} {x y : Operand} {q : TI} {X Y : AVal} {upd : List (Id × Obj)} (ho : o.op = .store t x y) (hrx : RepA C X (a.eval x)) (hry : RepA C Y (a.eval y)) (hq : tI P t = some q) (hq1 : 1 ≤ q.size)
  (h : storeE C.ρ q.size X Y = some upd) : Does P o a C.w (Owes B C (.tup []) upd):=by
 suffices hs : ∃ b p C',a.eval x = .pointer (some ⟨b,p,none⟩) ∧ (a.eval y).cells.size = q.size ∧ (storeCells ⟨b,p,none⟩ (a.eval y).cells.toList).run P C.w = .ok () C'.w ∧ C'.ρ = updL C.ρ upd ∧ Inv B C' ∧ Grow C C' by
  obtain ⟨b,p,C',h1,h2,h3,h4,h5,h6⟩:=hs
  refine .inr (.inl ⟨C'.w,?_,C',rfl,h4,h5,h6,?_⟩)
  ·simp only [execOp,ho,Instr.storeAt,h1,Instr.sureAddr,Sem.run_bind,Sem.run_pure,Result.andThen_ok,run_storeVar' hq h2 h3]
  ·simp [RepA,undef,RepL]
 unfold storeE at h
 split at h
 ·rename_i id off
  split at h
  ·rename_i cs hρ
   split at h
   ·rename_i hc
    obtain ⟨c1,c2,c3⟩:=hc
    simp only [Option.some.injEq] at h
    subst h
    simp only [RepA] at hrx
    obtain ⟨L,l1,l2⟩:=hrx
    have hL : L = C.μ id:=by simpa [boxAt,hρ] using l1.symm
    subst hL
    obtain ⟨y1,y2⟩:=hry.cells c3
    have hlen : (a.eval y).cells.toList.length = q.size:=by rw [y1.length,c1]
    obtain ⟨o1,o2,o3,o4⟩:=hI.objs id _ hρ
    have hfit : off + (a.eval y).cells.toList.length ≤ (C.μ id).n:=by rw [hlen,o1]; omega
    have hw:=hI.write hρ rfl off (a.eval y).cells.toList (ob':=.box (splice cs off Y.cells)) hfit trivial (fun C' e1 e2 hg ho' => by
     refine ⟨by rw [length_splice _ _ _ (by omega),o1],all_splice o2 c3 off,ho',fun j z hz => ?_⟩
     rw [splice_get (by omega)] at hz
     rw [e1,zod7 hI hρ rfl hfit]
     have hyl : Y.cells.length = (a.eval y).cells.toList.length:=y1.length.symm
     by_cases h1 : j < off
     ·rw [if_pos h1] at hz
      rw [if_neg (by omega)]
      obtain ⟨v,hv,hr⟩:=o4 j z hz
      exact ⟨v,hv,hr.grow hg⟩
     ·rw [if_neg h1] at hz
      by_cases h2 : j < off + Y.cells.length
      ·rw [if_pos h2] at hz
       rw [if_pos (by omega)]
       obtain ⟨v,hv,hr⟩:=y1.get hz
       exact ⟨v,hv,hr.grow hg⟩
      ·rw [if_neg h2] at hz
       rw [if_neg (by omega)]
       obtain ⟨v,hv,hr⟩:=o4 j z hz
       exact ⟨v,hv,hr.grow hg⟩)
    simp only at hw
    exact ⟨_,_,_,l2,by simpa using hlen,run_write hI hρ rfl hfit y2,rfl,hw.1,hw.2⟩
   ·cases h
  ·cases h
 ·rename_i id ver i off
  split at h
  ·rename_i sz ver' es hρ
   split at h
   ·rename_i d fs e hd he
    split at h
    ·rename_i hc
     obtain ⟨rfl,c2,c3,c4,c5⟩:=hc
     simp only [Option.some.injEq] at h
     subst h
     simp only [RepA] at hrx
     obtain ⟨A,p,a1,a2,a3,a4⟩:=hrx
     have hA : A = ⟨ver,sz,es.length,C.μ id⟩:=by simpa [arrAt,hρ] using a1.symm
     subst hA
     obtain ⟨g1,g2⟩:=a4 rfl
     subst g2
     obtain ⟨C1,k1,k2,k3,k4,k5,k6⟩:=hI.freeze fs
     have hV:=dec_rep k5.F k6 hd hry
     have hlen : (a.eval y).cells.toList.length = q.size:=by rw [hV.1.length,c2]
     have hρ1 : C1.ρ id = some (.arr sz ver false es):=by rw [k3,zzc7 fs c4]; exact hρ
     obtain ⟨o1,⟨cap,o2,o2'⟩,o3,_⟩:=k4.objs id _ hρ1
     obtain ⟨_,oel⟩:=o3 rfl
     have hi : i < es.length:=g1
     have hbound : i * sz + sz ≤ cap * sz:=by
      calc i * sz + sz = (i + 1) * sz:=by rw [Nat.add_mul]; omega
       _ ≤ cap * sz:=Nat.mul_le_mul_right _ (by omega)
     have hfit : i * sz + off + (a.eval y).cells.toList.length ≤ (C1.μ id).n:=by rw [hlen,o2]; omega
     have helem : ∀ F,C1.F.le F → ∀ c,RepD F e c → RepD F (if e.isAgg then .agg (splice e.cells off d.cells) else d) (splice c off (a.eval y).cells.toList):=by
      intro F hF c hec
      have hdF:=RepD.mono hF _ _ hV.1
      cases hagg : e.isAgg
      ·simp only [Bool.false_eq_true,if_false]
       obtain ⟨u,rfl,_,_⟩:=hec.leaf hagg
       have hw1 : sz = 1:=by
        have:=hec.length
        simp only [List.length_cons,List.length_nil] at this
        omega
       have : off = 0 ∧ (a.eval y).cells.toList.length = 1:=by omega
       rw [this.1]
       simp only [splice,List.take_zero,List.nil_append,Nat.zero_add,this.2]
       simpa using hdF
      ·simp only [if_true,RepD]
       have q1:=hec.cellsAgg
       have q2:=hdF.cellsAgg
       unfold splice
       rw [q2.length]
       exact ((q1.take off).append q2).append (q1.drop _)
     have hw:=k4.write hρ1 rfl (i * sz + off) (a.eval y).cells.toList (ob':=.arr sz ver false (es.set i (if e.isAgg then .agg (splice e.cells off d.cells) else d))) hfit
      ⟨Nat.le_refl _,fun _ => ⟨rfl,by simp⟩⟩ (fun C' e1 e2 hg ho' => by
      refine ⟨o1,⟨cap,o2,by simpa using o2'⟩,fun _ => ⟨ho',fun k z hz => ?_⟩,fun e => by cases e⟩
      have hwc:=zod7 k4 hρ1 rfl hfit
      rw [List.getElem?_set] at hz
      split at hz
      ·rename_i hik
       subst hik
       simp only [Option.some.injEq] at hz
       subst hz
       obtain ⟨c,q1,q2,q3⟩:=oel i e he
       refine ⟨_,?_,helem C'.F (by rw [e2]; exact fun _ _ _ h => h) c (by rw [e2]; exact q2),fun j v hj => ?_⟩
       ·rw [length_splice _ _ _ (by omega),q1]
       ·rw [e1,Nat.add_assoc,hwc]
        rw [splice_get (by omega)] at hj
        by_cases h1 : j < off
        ·rw [if_pos h1] at hj
         rw [if_neg (by omega)]
         have:=q3 j v hj
         rwa [Nat.add_assoc] at this
        ·rw [if_neg h1] at hj
         by_cases h2 : j < off + (a.eval y).cells.toList.length
         ·rw [if_pos h2] at hj
          rw [if_pos (by omega),← hj]
          congr 1; omega
         ·rw [if_neg h2] at hj
          rw [if_neg (by omega)]
          have:=q3 j v hj
          rwa [Nat.add_assoc] at this
      ·rename_i hik
       obtain ⟨c,q1,q2,q3⟩:=oel k z hz
       refine ⟨c,q1,RepD.mono hg.F _ _ q2,fun j v hj => ?_⟩
       have hj' : j < sz:=by rw [← q1]; exact (List.getElem?_eq_some_iff.1 hj).1
       rw [e1,Nat.add_assoc,hwc,if_neg]
       ·have:=q3 j v hj
        rwa [Nat.add_assoc] at this
       ·intro hcon
        rcases Nat.lt_or_gt_of_ne hik with hlt | hgt
        ·have : (i + 1) * sz ≤ k * sz:=Nat.mul_le_mul_right _ hlt
         rw [Nat.add_mul] at this
         omega
        ·have : (k + 1) * sz ≤ i * sz:=Nat.mul_le_mul_right _ hgt
         rw [Nat.add_mul] at this
         omega)
     simp only at hw
     have hrun:=run_write (P:=P) k4 hρ1 rfl hfit (fun v hv => hV.1.one v hv)
     refine ⟨(C.μ id).b,(C.μ id).o + i * sz + off,_,a3,by simpa using hlen,?_,?_,hw.1,k5.trans hw.2⟩
     ·rw [k2,k1,← Nat.add_assoc] at hrun
      rw [hrun]
      simp only [k1,k2,Nat.add_assoc]
     ·rw [k3,zte7]
    ·cases h
   ·cases h
  ·rename_i sz ver' es hρ
   split at h
   ·rename_i row he
    split at h
    ·rename_i hc
     obtain ⟨rfl,c2,c3,c4⟩:=hc
     simp only [Option.some.injEq] at h
     subst h
     simp only [RepA] at hrx
     obtain ⟨A,p,a1,a2,a3,a4⟩:=hrx
     have hA : A = ⟨ver,sz,es.length,C.μ id⟩:=by simpa [arrAt,hρ] using a1.symm
     subst hA
     obtain ⟨g1,g2⟩:=a4 rfl
     subst g2
     obtain ⟨o1,⟨cap,o2,o2'⟩,o3,o4,o5⟩:=hI.objs id _ hρ
     have hi : i < es.length:=g1
     have hrow:=o3 row (List.mem_of_getElem? he)
     obtain ⟨y1,y2⟩:=hry.cells c4
     have hlen : (a.eval y).cells.toList.length = q.size:=by rw [y1.length,c2]
     have hbound : i * sz + sz ≤ cap * sz:=by
      calc i * sz + sz = (i + 1) * sz:=by rw [Nat.add_mul]; omega
       _ ≤ cap * sz:=Nat.mul_le_mul_right _ (by omega)
     have hfit : i * sz + off + (a.eval y).cells.toList.length ≤ (C.μ id).n:=by rw [hlen,o2]; omega
     have hw:=hI.write hρ rfl (i * sz + off) (a.eval y).cells.toList (ob':=.rarr sz ver (es.set i (splice row off Y.cells))) hfit
      ⟨Nat.le_refl _,fun _ => ⟨rfl,by simp⟩⟩ (fun C' e1 e2 hg ho' => by
      refine ⟨o1,⟨cap,o2,by simpa using o2'⟩,fun r hr => ?_,ho',fun k z hz j x hj => ?_⟩
      ·rcases List.mem_or_eq_of_mem_set hr with hr | hr
       ·exact o3 r hr
       ·subst hr
        exact ⟨by rw [length_splice _ _ _ (by omega)]; exact hrow.1,all_splice hrow.2 c4 off⟩
      ·have hwc:=zod7 hI hρ rfl hfit
       have hyl : Y.cells.length = (a.eval y).cells.toList.length:=y1.length.symm
       rw [List.getElem?_set] at hz
       split at hz
       ·rename_i hik
        subst hik
        simp only [Option.some.injEq] at hz
        subst hz
        rw [e1,Nat.add_assoc,hwc]
        rw [splice_get (by omega)] at hj
        by_cases h1 : j < off
        ·rw [if_pos h1] at hj
         rw [if_neg (by omega)]
         obtain ⟨v,hv,hr⟩:=o5 i row he j x hj
         exact ⟨v,by rwa [Nat.add_assoc] at hv,hr.grow hg⟩
        ·rw [if_neg h1] at hj
         by_cases h2 : j < off + Y.cells.length
         ·rw [if_pos h2] at hj
          rw [if_pos (by omega)]
          obtain ⟨v,hv,hr⟩:=y1.get hj
          exact ⟨v,by rw [← hv]; congr 1; omega,hr.grow hg⟩
         ·rw [if_neg h2] at hj
          rw [if_neg (by omega)]
          obtain ⟨v,hv,hr⟩:=o5 i row he j x hj
          exact ⟨v,by rwa [Nat.add_assoc] at hv,hr.grow hg⟩
       ·rename_i hik
        obtain ⟨v,hv,hr⟩:=o5 k z hz j x hj
        have hj' : j < sz:=by rw [← (o3 z (List.mem_of_getElem? hz)).1]; exact (List.getElem?_eq_some_iff.1 hj).1
        refine ⟨v,?_,hr.grow hg⟩
        rw [e1,Nat.add_assoc,hwc,if_neg]
        ·rwa [Nat.add_assoc] at hv
        ·intro hcon
         rcases Nat.lt_or_gt_of_ne hik with hlt | hgt
         ·have : (i + 1) * sz ≤ k * sz:=Nat.mul_le_mul_right _ hlt
          rw [Nat.add_mul] at this
          omega
         ·have : (k + 1) * sz ≤ i * sz:=Nat.mul_le_mul_right _ hgt
          rw [Nat.add_mul] at this
          omega)
     simp only at hw
     have hrun:=run_write (P:=P) hI hρ rfl hfit y2
     refine ⟨(C.μ id).b,(C.μ id).o + i * sz + off,_,a3,by simpa using hlen,?_,rfl,hw.1,hw.2⟩
     rw [← Nat.add_assoc] at hrun
     rw [hrun]
     simp only [Nat.add_assoc]
    ·cases h
   ·cases h
  ·cases h
 ·cases h
theorem op_st (hI : Inv B C) (hE : RepE C g a) {t : TypeId} {x y : Operand} {q : TI} {ax ay : AX} {upd : List (Id × Obj)} (ho : o.op = .store t x y) (hx : cX x = some ax) (hy : cX y = some ay) (hq : tI P t = some q) (hq1 : 1 ≤ q.size)
  (h : storeE C.ρ q.size (evX g ax) (evX g ay) = some upd) : Does P o a C.w (Owes B C (.tup []) upd) :=
 op_st' hI ho (zia7 hE hx) (zia7 hE hy) hq hq1 h
theorem arr_nil (hI : Inv B C) {id : Id} {nv : Nat} (hid : zhb7 C.ρ id = some nv) {ob : Obj} {sz : Nat} (hsz : 1 ≤ sz) (hob : ob = .arr sz nv false [] ∨ ob = .rarr sz nv []) (p : Option Addr) :
  Owes B C (.rsl id nv sz 0 0) [(id,ob)] (.slice p 0 0) C.w:=by
 obtain ⟨n1,n2,n3,n4⟩:=newVer_lt hid
 have hlt : ∀ A,arrAt C id = some A → A.ver < nv:=by
  intro A hA
  simp only [arrAt] at hA
  split at hA
  ·rename_i e; simp only [Option.some.injEq] at hA; subst hA; exact n2 _ _ _ _ e
  ·rename_i e; simp only [Option.some.injEq] at hA; subst hA; exact n3 _ _ _ e
  ·cases hA
 obtain ⟨h1,h2,h3⟩:=hI.allocO C.w (Kept.refl _ _) id ob ⟨0,0,0⟩ ⟨n1,n4,fun A hA => by
   rcases hob with rfl | rfl <;> exact hlt A hA⟩ (.inr rfl) (fun x hx => by rcases hob with rfl | rfl <;> cases hx) (fun C' e1 e2 hg => by
   have hown : OwnOK C' ⟨0,0,0⟩:=fun j hj => by simp at hj
   rcases hob with rfl | rfl
   ·exact ⟨hsz,⟨0,by simp,by simp⟩,fun _ => ⟨hown,by simp⟩,fun e => by cases e⟩
   ·exact ⟨hsz,⟨0,by simp,by simp⟩,by simp,hown,by simp⟩)
 refine ⟨{ w:=C.w,F:=C.F,μ:=fun i => if i = id then ⟨0,0,0⟩ else C.μ i,ρ:=fun i => if i = id then some ob else C.ρ i },rfl,h3,h1,h2,?_⟩
 simp only [RepA]
 refine ⟨⟨nv,sz,0,⟨0,0,0⟩⟩,p,0,?_,Nat.le_refl _,rfl,Nat.le_refl _,by simp,fun _ => ⟨rfl,by simp,by simp,by simp⟩⟩
 rcases hob with rfl | rfl <;> simp [arrAt]
theorem op_mvNil (hI : Inv B C) {site nv sz : Nat} {ob : Obj} (ho : o.op = .move (.const (.slice none 0 0)) ∨ o.op = .assign (.const (.slice none 0 0))) (hid : zhb7 C.ρ (nid site) = some nv) (hsz : 1 ≤ sz)
  (hob : ob = .arr sz nv false [] ∨ ob = .rarr sz nv []) : Does P o a C.w (Owes B C (.rsl (nid site) nv sz 0 0) [(nid site,ob)]):=by
 refine .inl ⟨_,_,?_,arr_nil hI hid hsz hob none⟩
 rcases ho with ho | ho <;> simp [execOp,ho,Act.eval]
theorem run_app {sT xT e : TypeId} {ty : TypeId} {q : TI} {argTypes : Array TypeId} (h0 : argTypes[0]? = some sT) (h1 : argTypes[1]? = some xT) (hs : P.underlying sT = some (.slice e))
  (hx : (∃ e',P.underlying xT = some (.slice e')) ∨ P.underlying xT = some .string) (hq : tI P e = some q) (hz : q.zero.isSome = true) {w : World} {base : Option Addr} {len cap b p : Nat} {x : Value} {n : Nat} {old news : List Value}
  (hn : ∀ w',(Builtin.lenOf x).run P w' = .ok n w') (hf : ∀ w',(∀ ad,w'.cell? ad = w.cell? ad) → (Builtin.firstCells q.size n x).run P w' = .ok news.toArray w')
  (hnl : news.length = n * q.size) (hone : ∀ v ∈ news,v.oneCell' = true) (hbase : 0 < cap → base = some ⟨b,p,none⟩) (hlc : len ≤ cap)
  (hol : old.length = len * q.size) (hold : ∀ (j : Nat) (v : Value),old[j]? = some v → w.cell? ⟨b,p + j,none⟩ = some v)
  (hown : len + n ≤ cap → ∀ j,j < cap * q.size → (∃ v,w.cell? ⟨b,p + j,none⟩ = some v) ∧ w.frozen? ⟨b,p + j,none⟩ = false)
  (hroom : (len + n) * (q.bytes + 1) ≤ room) (hpos : 0 < n) (hsz : ∀ w z,(zeroValue e).run P w = .ok z w → z.cells.size = q.size) :
  (len + n ≤ cap ∧ base = some ⟨b,p,none⟩ ∧ (Builtin.append_ argTypes ty #[.slice base len cap,x]).run P w = .ok (.slice base (len + n) cap) (w.setCells b (p + len * q.size) news)) ∨
  (∃ (cap' : Nat) (cs : Array Value),len + n ≤ cap' ∧ cs.size = cap' * q.size ∧ cs.toList.take ((len + n) * q.size) = old ++ news ∧
   (Builtin.append_ argTypes ty #[.slice base len cap,x]).run P w = .ok (.slice (some ⟨w.heap.size,0,none⟩) (len + n) cap') (w.drew.alloc (.cells cs e))):=by
 obtain ⟨i,d,i1,i2,i3,i4,_⟩:=tI_info hq
 obtain ⟨z,hzv⟩:=tI_zero_some hq hz
 have hr : room = 1099511627776:=rfl
 have hzeros : ∀ (w : World),(do pure ((← underlying xT) matches .int _) : Sem Bool).run P w = .ok false w:=by
  intro w
  rcases hx with ⟨e',hx⟩ | hx <;> simp only [Sem.run_bind,run_underlying hx,Result.andThen_ok] <;> rfl
 by_cases hfit : len + n ≤ cap
 ·left
  have hb:=hbase (by omega)
  refine ⟨hfit,hb,?_⟩
  have hst:=run_storeCells_cells (P:=P) b (p + len * q.size) news 0 w (fun j hj => by
    have : len * q.size + j < cap * q.size:=by
     have : (len + n) * q.size ≤ cap * q.size:=Nat.mul_le_mul_right _ hfit
     rw [Nat.add_mul] at this
     omega
    obtain ⟨⟨v,hv⟩,_⟩:=hown hfit (len * q.size + j) this
    rw [show p + len * q.size + 0 + j = p + (len * q.size + j) by omega,hv]; rfl)
   (fun j hj => by
    have : len * q.size + j < cap * q.size:=by
     have : (len + n) * q.size ≤ cap * q.size:=Nat.mul_le_mul_right _ hfit
     rw [Nat.add_mul] at this
     omega
    obtain ⟨_,hfz⟩:=hown hfit (len * q.size + j) this
    rwa [show p + len * q.size + 0 + j = p + (len * q.size + j) by omega]) hone
  simp only [Nat.add_zero] at hst
  have hst' : (storeCells ((⟨b,p,none⟩ : Addr).add (len * q.size)) news).run P w = .ok () (w.setCells b (p + len * q.size) news):=by rw [Addr.add_mk]; exact hst
  unfold Builtin.append_
  simp only [h0,h1,List.getElem?_toArray,List.getElem?_cons_zero,List.getElem?_cons_succ]
  rcases hx with ⟨e',hx⟩ | hx <;>
  simp only [Sem.run_bind,run_underlying hs,Result.andThen_ok,run_sizeOf hq,run_underlying hx,Sem.run_pure,Bool.false_eq_true,if_false,hn,hfit,if_true,Bool.not_false,hf w (fun _ => rfl),hb,hst']
 ·right
  have hneed : ¬ (((len + n : Nat) : Int) > IntKind.i64.max ∧ (False ∨ i.bytes = 0)):=by
   intro ⟨h,_⟩
   have : IntKind.i64.max = 9223372036854775807:=by decide
   have : len + n ≤ (len + n) * (q.bytes + 1):=Nat.le_mul_of_pos_right _ (by omega)
   omega
  have hmul : (len + n) * q.bytes ≤ (len + n) * (q.bytes + 1):=Nat.mul_le_mul_left _ (by omega)
  have hgrow : ¬ (Builtin.nextslicecap (len + n) cap * i.bytes > 2 ^ 48):=by
   have:=growslice_fits (need:=len + n) (old:=cap) (bytes:=i.bytes) (by omega) (by rw [← i4]; omega)
   omega
  refine ⟨grownCap w (len + n) cap e,old.toArray ++ news.toArray ++ Builtin.zeroCells z.cells (grownCap w (len + n) cap e - (len + n)),grownCap_ge w _ _ _,?_,?_,?_⟩
  ·have hge:=grownCap_ge w (len + n) cap e
   simp only [Array.size_append,List.size_toArray,size_zeroCells,hol,hnl,hsz _ _ (hzv w),← Nat.add_mul]
   congr 1; omega
  ·simp only [Array.toList_append,List.append_assoc]
   rw [← List.append_assoc,List.take_append_of_le_length (by simp only [List.length_append,hol,hnl,Nat.add_mul]; omega)]
   rw [List.take_of_length_le (by simp only [List.length_append,hol,hnl,Nat.add_mul]; omega)]
  ·have hfo : ∀ w',(∀ ad,w'.cell? ad = w.cell? ad) → (Builtin.firstCells q.size len (.slice base len cap)).run P w' = .ok old.toArray w':=by
    intro w' hw'
    refine zlb7 hol ?_
    intro hp
    have : 0 < cap:=by
     rcases Nat.eq_zero_or_pos len with h | h
     ·rw [h] at hol; simp at hol; simp [hol] at hp
     ·omega
    exact ⟨b,p,hbase this,fun j v hj => by rw [hw']; exact hold j v hj⟩
   have hch : (choose (.appendCap (len + n) cap e)).run P w = .ok (grownCap w (len + n) cap e) w.drew:=by
    rw [run_choose]; rfl
   unfold Builtin.append_
   simp only [h0,h1,List.getElem?_toArray,List.getElem?_cons_zero,List.getElem?_cons_succ]
   rcases hx with ⟨e',hx⟩ | hx <;>
   simp only [Sem.run_bind,run_underlying hs,Result.andThen_ok,run_sizeOf hq,run_underlying hx,Sem.run_pure,Bool.false_eq_true,if_false,hn,hfit,run_typeInfo i1,hneed,hgrow,hch,run_askRoom,
    hfo w.drew (fun _ => rfl),Bool.not_false,if_true,hf w.drew (fun _ => rfl),hzv,newRow,run_newObj] <;> rfl
theorem zse7 {e : TypeId} {q : TI} (hq : tI P e = some q) (hok : ∃ l,q.zero = some l ∧ l.length = q.size) : ∀ w z,(zeroValue e).run P w = .ok z w → z.cells.size = q.size:=by
 obtain ⟨l,hz,hl⟩:=hok
 obtain ⟨v,hv,hc⟩:=tI_zero hq hz
 intro w z hzv
 rw [hv] at hzv
 cases hzv
 have:=zhc7 hc
 have:=congrArg List.length this
 simp at this
 omega
theorem op_app (hI : Inv B C) (hE : RepE C g a) {c : Call} {x y : Operand} {sT xT e : TypeId} {q : TI} {ax ay : AX} {id : Id} {ver len : Nat} {es0 ds : List Dat} (ho : o.op = .call c) (hc : c.callee = .builtin .append) (ha : c.args = #[x,y])
  (h0 : c.argTypes[0]? = some sT) (h1 : c.argTypes[1]? = some xT) (hs : P.underlying sT = some (.slice e)) (hxt : (∃ e',P.underlying xT = some (.slice e')) ∨ P.underlying xT = some .string) (hq : tI P e = some q) (hok : ∃ l,q.zero = some l ∧ l.length = q.size)
  (hx : cX x = some ax) (hy : cX y = some ay) (hX : evX g ax = .rsl id ver q.size 0 len) (hρ : C.ρ id = some (.arr q.size ver false es0)) (hY : srcOf C.ρ q.size (evX g ay) = some ds) (hlen0 : len ≤ es0.length)
  (hroom : (len + ds.length) * (q.bytes + 1) ≤ room) :
  Does P o a C.w (Owes B C (if ds.length = 0 then .rsl id ver q.size 0 len else .rsl id (ver + 1) q.size 0 (len + ds.length)) (if ds.length = 0 then [] else [(id,.arr q.size (ver + 1) false (preN len es0 ++ ds))])):=by
 have hrx:=zia7 hE hx
 rw [hX] at hrx
 obtain ⟨o1,⟨cp,o2,o2'⟩,o3,_⟩:=hI.objs id _ hρ
 obtain ⟨oown,oel0⟩:=o3 rfl
 rw [preN_take]
 have hlen : len = (es0.take len).length:=by simp [List.length_take]; omega
 have oel:=fun (i : Nat) (d : Dat) (hd : (es0.take len)[i]? = some d) => oel0 i d (by
  rw [List.getElem?_take] at hd
  split at hd
  ·exact hd
  ·cases hd)
 have hA0 : (es0.take len).length ≤ es0.length:=by simp [List.length_take]; omega
 generalize es0.take len = es at hlen oel hA0 ⊢
 obtain ⟨cs,c1,c2,c3⟩:=ztf7 (P:=P) hI o1 hY (zia7 hE hy)
 have hrx':=hrx
 simp only [RepA] at hrx
 obtain ⟨A,p,cap,a1,a2,a3,a4,a5,a6⟩:=hrx
 have hA : A = ⟨ver,q.size,es0.length,C.μ id⟩:=by simpa [arrAt,hρ] using a1.symm
 subst hA
 obtain ⟨g1,g2,g3,g4⟩:=a6 rfl
 simp only [Nat.zero_add,Nat.zero_mul,Nat.add_zero] at g3 g4
 have hargs : c.args.map a.eval = #[a.eval x,a.eval y]:=by rw [ha]; simp
 have hexec : ∀ v w',(Builtin.append_ c.argTypes o.type #[a.eval x,a.eval y]).run P C.w = .ok v w' → (execOp a.eval o).run P C.w = .ok (.value v) w':=by
  intro v w' h
  simp only [execOp,ho,resolve,hc,Sem.run_bind,Sem.run_pure,Result.andThen_ok,invoke,builtin,hargs,h]
 have hzs:=zse7 hq hok
 have hz : q.zero.isSome = true:=by obtain ⟨l,hl,_⟩:=hok; simp [hl]
 by_cases hd : ds.length = 0
 ·simp only [hd,if_true]
  have hds : ds = []:=List.eq_nil_of_length_eq_zero hd
  subst hds
  refine .inl ⟨a.eval x,C.w,hexec _ _ ?_,C,rfl,rfl,hI,Grow.refl C,hrx'⟩
  have hxz : (do pure ((← underlying xT) matches .int _) : Sem Bool).run P C.w = .ok false C.w:=by
   rcases hxt with ⟨e',hxt⟩ | hxt <;> simp only [Sem.run_bind,run_underlying hxt,Result.andThen_ok] <;> rfl
  have hf:=c3 0 (Nat.zero_le _) C.w (fun _ => rfl)
  simp only [Nat.zero_mul,List.take_zero] at hf
  rw [a3]
  unfold Builtin.append_
  simp only [h0,h1,List.getElem?_toArray,List.getElem?_cons_zero,List.getElem?_cons_succ]
  rcases hxt with ⟨e',hxt⟩ | hxt <;>
  simp only [Sem.run_bind,run_underlying hs,Result.andThen_ok,run_sizeOf hq,run_underlying hxt,Sem.run_pure,Bool.false_eq_true,if_false,c2,a4,if_true,Bool.not_false,hf,List.length_nil,Nat.add_zero] <;>
  (cases p <;> simp only [storeCells,Sem.run_pure,Sem.run_bind,Result.andThen_ok])
 ·simp only [hd,if_false]
  obtain ⟨old,f1,f2⟩:=flat_of (F:=C.F) (sz:=q.size) (fun j => C.w.cell? ⟨(C.μ id).b,j,none⟩) (ds:=es) (C.μ id).o (fun i d hd => oel i d hd)
  have hcl:=c1.length
  have hn : c1 = c1:=rfl
  have happ:=run_app (P:=P) (ty:=o.type) (w:=C.w) (base:=p) (len:=len) (cap:=cap) (b:=(C.μ id).b) (p:=(C.μ id).o) (x:=a.eval y) (n:=ds.length) (old:=old) (news:=cs) h0 h1 hs hxt hq hz c2
   (fun w' hw' => by
    have:=c3 ds.length (Nat.le_refl _) w' hw'
    rwa [List.take_of_length_le (by rw [hcl]; exact Nat.le_refl _)] at this) hcl c1.one g4 a4
   (by rw [f1.length,hlen]) f2 (fun _ j hj => by
    rw [← g3] at hj
    exact ⟨(oown j hj).1,(oown j hj).2.1⟩) hroom (by omega) hzs
  rcases happ with ⟨r1,r2,r3⟩ | ⟨cap',out,r1,r2,r3,r4⟩
  ·have hfit : len * q.size + cs.length ≤ (C.μ id).n:=by
    rw [g3,hcl,← Nat.add_mul]
    exact Nat.mul_le_mul_right _ r1
   have hw:=hI.write hρ rfl (len * q.size) cs (ob':=.arr q.size (ver + 1) false (es ++ ds)) hfit ⟨Nat.le_succ _,fun e => by omega⟩ (fun C' e1 e2 hg ho' => by
    refine ⟨o1,⟨cap,g3,by simp; omega⟩,fun _ => ⟨ho',fun i d hd => ?_⟩,fun e => by cases e⟩
    have hwc:=zod7 hI hρ rfl hfit
    rcases Nat.lt_or_ge i es.length with hlt | hge
    ·rw [List.getElem?_append_left hlt] at hd
     obtain ⟨u,q1,q2,q3⟩:=oel i d hd
     refine ⟨u,q1,RepD.mono hg.F _ _ q2,fun j v hj => ?_⟩
     have hj' : j < q.size:=by rw [← q1]; exact (List.getElem?_eq_some_iff.1 hj).1
     have : i * q.size + j < len * q.size:=by
      have : (i + 1) * q.size ≤ len * q.size:=Nat.mul_le_mul_right _ (by omega)
      rw [Nat.add_mul] at this
      omega
     rw [e1,Nat.add_assoc,hwc,if_neg (by omega),← Nat.add_assoc]
     exact q3 j v hj
    ·rw [List.getElem?_append_right hge] at hd
     obtain ⟨u,q1,q2,q3⟩:=c1.get hd
     refine ⟨u,q1,RepD.mono hg.F _ _ q2,fun j v hj => ?_⟩
     have hj' : j < q.size:=by rw [← q1]; exact (List.getElem?_eq_some_iff.1 hj).1
     have hge' : len * q.size + (i - es.length) * q.size = i * q.size:=by rw [← Nat.add_mul]; congr 1; omega
     have hlt':=(List.getElem?_eq_some_iff.1 (q3 j v hj)).1
     rw [e1,Nat.add_assoc,hwc,if_pos (by omega),← q3 j v hj]
     congr 1; omega)
   simp only at hw
   refine .inl ⟨_,_,hexec _ _ (by rw [a3]; exact r3),_,rfl,rfl,hw.1,hw.2,?_⟩
   simp only [RepA]
   refine ⟨⟨ver + 1,q.size,(es ++ ds).length,C.μ id⟩,p,cap,by simp [arrAt,updL],Nat.le_refl _,rfl,r1,a5,fun _ => ⟨rfl,by simp; omega,by simpa using g3,by simpa using g4⟩⟩
  ·obtain ⟨I1,G1⟩:=hI.drew
   have hnv : zhb7 C.ρ id = some (ver + 1):=by simp [zhb7,hρ]
   have hnew:=arr_new I1 (id:=id) (nv:=ver + 1) hnv o1 (ds:=es ++ ds) (cs:=out) cap' ⟨out,by
    rw [List.length_append,← hlen,r3]
    exact f1.append c1,r2,rfl⟩ (by simp; omega) e
   obtain ⟨C',w1,w2,w3,w4,w5⟩:=hnew
   refine .inl ⟨_,_,hexec _ _ (by rw [a3]; exact r4),C',w1,w2,w3,G1.trans w4,?_⟩
   have hl2 : (es ++ ds).length = len + ds.length:=by simp [hlen]
   rw [hl2] at w5
   exact w5
theorem op_appNil (hI : Inv B C) (hE : RepE C g a) {c : Call} {x y : Operand} {sT xT e : TypeId} {q : TI} {ax ay : AX} {site nv : Nat} {ds : List Dat} (ho : o.op = .call c) (hc : c.callee = .builtin .append) (ha : c.args = #[x,y])
  (h0 : c.argTypes[0]? = some sT) (h1 : c.argTypes[1]? = some xT) (hs : P.underlying sT = some (.slice e)) (hxt : (∃ e',P.underlying xT = some (.slice e')) ∨ P.underlying xT = some .string) (hq : tI P e = some q) (hok : ∃ l,q.zero = some l ∧ l.length = q.size) (hsz : 1 ≤ q.size)
  (hx : cX x = some ax) (hy : cX y = some ay) (hX : evX g ax = .nils) (hY : srcOf C.ρ q.size (evX g ay) = some ds) (hid : ds.length ≠ 0 → zhb7 C.ρ (nid site) = some nv)
  (hroom : ds.length ≠ 0 → ds.length * (q.bytes + 1) ≤ room) :
  Does P o a C.w (if ds.length = 0 then Owes B C .nils [] else Owes B C (.rsl (nid site) nv q.size 0 ds.length) [(nid site,.arr q.size nv false ds)]):=by
 have hrx:=zia7 hE hx
 rw [hX] at hrx
 simp only [RepA] at hrx
 obtain ⟨cs,c1,c2,c3⟩:=ztf7 (P:=P) hI hsz hY (zia7 hE hy)
 have hargs : c.args.map a.eval = #[a.eval x,a.eval y]:=by rw [ha]; simp
 have hexec : ∀ v w',(Builtin.append_ c.argTypes o.type #[a.eval x,a.eval y]).run P C.w = .ok v w' → (execOp a.eval o).run P C.w = .ok (.value v) w':=by
  intro v w' h
  simp only [execOp,ho,resolve,hc,Sem.run_bind,Sem.run_pure,Result.andThen_ok,invoke,builtin,hargs,h]
 have hzs:=zse7 hq hok
 have hz : q.zero.isSome = true:=by obtain ⟨l,hl,_⟩:=hok; simp [hl]
 have hcl:=c1.length
 by_cases hd : ds.length = 0
 ·have hds : ds = []:=List.eq_nil_of_length_eq_zero hd
  subst hds
  simp only [List.length_nil,if_true]
  refine .inl ⟨a.eval x,C.w,hexec _ _ ?_,C,rfl,rfl,hI,Grow.refl C,by rw [hrx]; simp only [RepA]⟩
  have hf:=c3 0 (Nat.zero_le _) C.w (fun _ => rfl)
  simp only [Nat.zero_mul,List.take_zero] at hf
  rw [hrx]
  unfold Builtin.append_
  simp only [h0,h1,List.getElem?_toArray,List.getElem?_cons_zero,List.getElem?_cons_succ]
  rcases hxt with ⟨e',hxt⟩ | hxt <;>
  simp only [Sem.run_bind,run_underlying hs,Result.andThen_ok,run_sizeOf hq,run_underlying hxt,Sem.run_pure,Bool.false_eq_true,if_false,c2,Nat.le_refl,if_true,Bool.not_false,hf,List.length_nil,Nat.add_zero] <;>
  simp only [storeCells,Sem.run_pure,Sem.run_bind,Result.andThen_ok]
 ·rw [if_neg hd]
  have hid:=hid hd
  have hroom:=hroom hd
  have happ:=run_app (P:=P) (ty:=o.type) (w:=C.w) (base:=none) (len:=0) (cap:=0) (b:=0) (p:=0) (x:=a.eval y) (n:=ds.length) (old:=[]) (news:=cs) h0 h1 hs hxt hq hz c2
   (fun w' hw' => by
    have:=c3 ds.length (Nat.le_refl _) w' hw'
    rwa [List.take_of_length_le (by rw [hcl]; exact Nat.le_refl _)] at this) hcl c1.one (by simp) (Nat.le_refl _) (by simp) (by simp) (by simp) (by simpa using hroom) (by omega) hzs
  rcases happ with ⟨r1,r2,r3⟩ | ⟨cap',out,r1,r2,r3,r4⟩
  ·omega
  ·obtain ⟨I1,G1⟩:=hI.drew
   have hnew:=arr_new I1 (id:=nid site) (nv:=nv) hid hsz (ds:=ds) (cs:=out) cap' ⟨out,by
    simp only [Nat.zero_add,List.nil_append] at r3
    rw [r3]; exact c1,r2,rfl⟩ (by omega) e
   obtain ⟨C',w1,w2,w3,w4,w5⟩:=hnew
   simp only [Nat.zero_add] at r4
   exact .inl ⟨_,_,hexec _ _ (by rw [hrx]; exact r4),C',w1,w2,w3,G1.trans w4,w5⟩
theorem op_appCap (hI : Inv B C) (hE : RepE C g a) {c : Call} {x y : Operand} {sT xT e : TypeId} {q : TI} {ax ay : AX} {site nv : Nat} {ds : List Dat} (ho : o.op = .call c) (hc : c.callee = .builtin .append) (ha : c.args = #[x,y])
  (h0 : c.argTypes[0]? = some sT) (h1 : c.argTypes[1]? = some xT) (hs : P.underlying sT = some (.slice e)) (hxt : (∃ e',P.underlying xT = some (.slice e')) ∨ P.underlying xT = some .string) (hq : tI P e = some q) (hok : ∃ l,q.zero = some l ∧ l.length = q.size) (hq1 : 1 ≤ q.size)
  (hx : cX x = some ax) (hy : cX y = some ay) (hX : evX g ax = .cap0) (hY : srcOf C.ρ q.size (evX g ay) = some ds) (hid : ds.length ≠ 0 → zhb7 C.ρ (nid site) = some nv)
  (hroom : ds.length ≠ 0 → ds.length * (q.bytes + 1) ≤ room) :
  Does P o a C.w (if ds.length = 0 then Owes B C .cap0 [] else Owes B C (.rsl (nid site) nv q.size 0 ds.length) [(nid site,.arr q.size nv false ds)]):=by
 have hrx:=zia7 hE hx
 rw [hX] at hrx
 simp only [RepA] at hrx
 obtain ⟨p,hrx⟩:=hrx
 obtain ⟨cs,c1,c2,c3⟩:=ztf7 (P:=P) hI hq1 hY (zia7 hE hy)
 have hargs : c.args.map a.eval = #[a.eval x,a.eval y]:=by rw [ha]; simp
 have hexec : ∀ v w',(Builtin.append_ c.argTypes o.type #[a.eval x,a.eval y]).run P C.w = .ok v w' → (execOp a.eval o).run P C.w = .ok (.value v) w':=by
  intro v w' h
  simp only [execOp,ho,resolve,hc,Sem.run_bind,Sem.run_pure,Result.andThen_ok,invoke,builtin,hargs,h]
 have hzs:=zse7 hq hok
 have hz : q.zero.isSome = true:=by obtain ⟨l,hl,_⟩:=hok; simp [hl]
 have hcl:=c1.length
 by_cases hd : ds.length = 0
 ·have hds : ds = []:=List.eq_nil_of_length_eq_zero hd
  subst hds
  simp only [List.length_nil,if_true]
  refine .inl ⟨a.eval x,C.w,hexec _ _ ?_,C,rfl,rfl,hI,Grow.refl C,by rw [hrx]; simp only [RepA]; exact ⟨p,rfl⟩⟩
  have hf:=c3 0 (Nat.zero_le _) C.w (fun _ => rfl)
  simp only [Nat.zero_mul,List.take_zero] at hf
  rw [hrx]
  unfold Builtin.append_
  simp only [h0,h1,List.getElem?_toArray,List.getElem?_cons_zero,List.getElem?_cons_succ]
  rcases hxt with ⟨e',hxt⟩ | hxt <;>
  simp only [Sem.run_bind,run_underlying hs,Result.andThen_ok,run_sizeOf hq,run_underlying hxt,Sem.run_pure,Bool.false_eq_true,if_false,c2,Nat.le_refl,if_true,Bool.not_false,hf,List.length_nil,Nat.add_zero] <;>
  (cases p <;> simp only [storeCells,Sem.run_pure,Sem.run_bind,Result.andThen_ok])
 ·rw [if_neg hd]
  have hid:=hid hd
  have hroom:=hroom hd
  have happ:=run_app (P:=P) (ty:=o.type) (w:=C.w) (base:=p) (len:=0) (cap:=0) (b:=0) (p:=0) (x:=a.eval y) (n:=ds.length) (old:=[]) (news:=cs) h0 h1 hs hxt hq hz c2
   (fun w' hw' => by
    have:=c3 ds.length (Nat.le_refl _) w' hw'
    rwa [List.take_of_length_le (by rw [hcl]; exact Nat.le_refl _)] at this) hcl c1.one (by simp) (Nat.le_refl _) (by simp) (by simp) (by simp) (by simpa using hroom) (by omega) hzs
  rcases happ with ⟨r1,r2,r3⟩ | ⟨cap',out,r1,r2,r3,r4⟩
  ·omega
  ·obtain ⟨I1,G1⟩:=hI.drew
   have hnew:=arr_new I1 (id:=nid site) (nv:=nv) hid hq1 (ds:=ds) (cs:=out) cap' ⟨out,by
    simp only [Nat.zero_add,List.nil_append] at r3
    rw [r3]; exact c1,r2,rfl⟩ (by omega) e
   obtain ⟨C',w1,w2,w3,w4,w5⟩:=hnew
   simp only [Nat.zero_add] at r4
   exact .inl ⟨_,_,hexec _ _ (by rw [hrx]; exact r4),C',w1,w2,w3,G1.trans w4,w5⟩
theorem op_appFull (hI : Inv B C) (hE : RepE C g a) {c : Call} {x y : Operand} {sT xT e : TypeId} {q : TI} {ax ay : AX} {site nv : Nat} {l ds : List Dat} (ho : o.op = .call c) (hc : c.callee = .builtin .append) (ha : c.args = #[x,y])
  (h0 : c.argTypes[0]? = some sT) (h1 : c.argTypes[1]? = some xT) (hs : P.underlying sT = some (.slice e)) (hxt : (∃ e',P.underlying xT = some (.slice e')) ∨ P.underlying xT = some .string) (hq : tI P e = some q) (hok : ∃ l,q.zero = some l ∧ l.length = q.size) (hq1 : 1 ≤ q.size)
  (hx : cX x = some ax) (hy : cX y = some ay) (hX : evX g ax = .fsl l) (hY : srcOf C.ρ q.size (evX g ay) = some ds) (hid : zhb7 C.ρ (nid site) = some nv) (hd : ds.length ≠ 0) (hw : (l.all fun d => d.width == q.size) = true)
  (hroom : (l.length + ds.length) * (q.bytes + 1) ≤ room) :
  Does P o a C.w (Owes B C (.rsl (nid site) nv q.size 0 (l.length + ds.length)) [(nid site,.arr q.size nv false (l ++ ds))]):=by
 have hrx:=zia7 hE hx
 rw [hX] at hrx
 simp only [RepA] at hrx
 obtain ⟨⟨p0,hrx⟩,hrv⟩:=hrx
 obtain ⟨p,cap,old,f0,f1,f2⟩:=elemsOf_rep (sz:=q.size) (x:=.dat (.sl l)) (ds:=l) (val:=a.eval x) hI (by simp only [elemsOf,hw,if_true]) (by simp only [RepA]; exact hrv)
 obtain ⟨cs,c1,c2,c3⟩:=ztf7 (P:=P) hI hq1 hY (zia7 hE hy)
 rw [hrx] at f0
 simp only [Value.slice.injEq] at f0
 obtain ⟨rfl,-,rfl⟩:=f0
 have hargs : c.args.map a.eval = #[a.eval x,a.eval y]:=by rw [ha]; simp
 have hexec : ∀ v w',(Builtin.append_ c.argTypes o.type #[a.eval x,a.eval y]).run P C.w = .ok v w' → (execOp a.eval o).run P C.w = .ok (.value v) w':=by
  intro v w' h
  simp only [execOp,ho,resolve,hc,Sem.run_bind,Sem.run_pure,Result.andThen_ok,invoke,builtin,hargs,h]
 have hzs:=zse7 hq hok
 have hz : q.zero.isSome = true:=by obtain ⟨l,hl,_⟩:=hok; simp [hl]
 have hcl:=c1.length
 obtain ⟨b,o',hb,hcell⟩ : ∃ b o',(0 < l.length → p0 = some ⟨b,o',none⟩) ∧ ∀ (j : Nat) (v : Value),old[j]? = some v → C.w.cell? ⟨b,o' + j,none⟩ = some v:=by
  rcases Nat.eq_zero_or_pos l.length with h | h
  ·have:=f1.length
   rw [h,Nat.zero_mul] at this
   exact ⟨0,0,fun h' => by omega,fun j v hj => by rw [List.eq_nil_of_length_eq_zero this] at hj; simp at hj⟩
  ·obtain ⟨b,o',h1,h2⟩:=f2 h
   exact ⟨b,o',fun _ => h1,h2⟩
 have happ:=run_app (P:=P) (ty:=o.type) (w:=C.w) (base:=p0) (len:=l.length) (cap:=l.length) (b:=b) (p:=o') (x:=a.eval y) (n:=ds.length) (old:=old) (news:=cs) h0 h1 hs hxt hq hz c2
  (fun w' hw' => by
   have:=c3 ds.length (Nat.le_refl _) w' hw'
   rwa [List.take_of_length_le (by rw [hcl]; exact Nat.le_refl _)] at this) hcl c1.one hb (Nat.le_refl _) f1.length hcell (fun h => by omega) hroom (by omega) hzs
 rcases happ with ⟨r1,r2,r3⟩ | ⟨cap',out,r1,r2,r3,r4⟩
 ·omega
 ·obtain ⟨I1,G1⟩:=hI.drew
  have hnew:=arr_new I1 (id:=nid site) (nv:=nv) hid hq1 (ds:=l ++ ds) (cs:=out) cap' ⟨out,by
   rw [List.length_append,r3]; exact f1.append c1,r2,rfl⟩ (by simp; omega) e
  obtain ⟨C',w1,w2,w3,w4,w5⟩:=hnew
  rw [List.length_append] at w5
  exact .inl ⟨_,_,hexec _ _ (by rw [hrx]; exact r4),C',w1,w2,w3,G1.trans w4,w5⟩
theorem lits_src (hI : Inv B C) {sz k : Nat} {ws : List AVal} {val : Value} (hr : RepA C (.lits sz k ws) val) : ∃ cs : List Value,RepL C ws cs ∧ ws.all AVal.leaf = true ∧ (∀ v ∈ cs,v.oneCell' = true) ∧ ws.length = k * sz ∧ (∀ w,(Builtin.lenOf val).run P w = .ok k w) ∧
  ∀ w,(∀ ad,w.cell? ad = C.w.cell? ad) → (Builtin.firstCells sz k val).run P w = .ok cs.toArray w:=by
 simp only [RepA] at hr
 obtain ⟨b,p,cap,cs,h1,h2,h2',h3,h4,h5,h6⟩:=hr
 subst h1
 refine ⟨cs,h3,h5,h6,h2',fun w => rfl,fun w hw => zlb7 (by rw [h3.length,h2']) fun _ => ⟨b,p,rfl,fun j v hj => ?_⟩⟩
 rw [hw]
 exact hI.Fw _ _ _ (h4 j v hj)
theorem rarr_new (hI : Inv B C) {id : Id} {nv sz : Nat} (hid : zhb7 C.ρ id = some nv) (hsz : 1 ≤ sz) {es : List (List AVal)} (hes : ∀ row ∈ es,row.length = sz) {cs : Array Value} (cap : Nat) (hl : es.flatten.all AVal.leaf = true)
  (hr : RepL C es.flatten (cs.toList.take es.flatten.length)) (hsize : cs.size = cap * sz) (hcap : es.length ≤ cap) (t : TypeId) :
  Owes B C (.rsl id nv sz 0 es.length) [(id,.rarr sz nv es)] (.slice (some ⟨C.w.heap.size,0,none⟩) es.length cap) (C.w.alloc (.cells cs t)):=by
 obtain ⟨n1,n2,n3,n4⟩:=newVer_lt hid
 obtain ⟨h1,h2,h3⟩:=hI.allocO (C.w.alloc (.cells cs t)) (Kept.alloc _ _ _ _) id (.rarr sz nv es) ⟨C.w.heap.size,0,cs.size⟩
  ⟨n1,n4,fun A hA => by
   simp only [arrAt] at hA
   split at hA
   ·rename_i e; simp only [Option.some.injEq] at hA; subst hA; exact n2 _ _ _ _ e
   ·rename_i e; simp only [Option.some.injEq] at hA; subst hA; exact n3 _ _ _ e
   ·cases hA⟩ (.inl (Nat.le_refl _)) (fun _ _ => Nat.le_refl _) (fun C' e1 e2 hg => by
   refine rarr_ok.2 ⟨hsz,⟨cap,hsize,hcap⟩,hes,hl,own_new C hI cs t C' e1 e2,fun j x hj => ?_⟩
   obtain ⟨c,hc,hx⟩:=hr.get hj
   refine ⟨c,?_,hx.grow hg⟩
   rw [List.getElem?_take] at hc
   rw [e1]
   split at hc
   ·simpa using hc
   ·cases hc)
 refine ⟨{ w:=C.w.alloc (.cells cs t),F:=C.F,μ:=fun i => if i = id then ⟨C.w.heap.size,0,cs.size⟩ else C.μ i,ρ:=fun i => if i = id then some (.rarr sz nv es) else C.ρ i },rfl,h3,h1,h2,?_⟩
 simp only [RepA]
 refine ⟨⟨nv,sz,es.length,⟨C.w.heap.size,0,cs.size⟩⟩,some ⟨C.w.heap.size,0,none⟩,cap,by simp [arrAt],Nat.le_refl _,rfl,hcap,by simp,fun _ => ⟨rfl,by simp,by simpa using hsize,by simp⟩⟩
theorem run_sliceBounds3 (len cap : Nat) {lo : Option Value} {hi mx : Value} {l h m : Int} (w : World)
  (hlo : (lo = none ∧ l = 0) ∨ ∃ k,lo = some (.int k l)) (hhi : ∃ k,hi = .int k h) (hmx : ∃ k,mx = .int k m) (hb : 0 ≤ l ∧ l ≤ h ∧ h ≤ m ∧ m ≤ cap) :
  (Instr.sliceBounds true len cap lo (some hi) (some mx)).run P w = .ok (l.toNat,h.toNat,m.toNat) w:=by
 obtain ⟨k1,rfl⟩:=hhi
 obtain ⟨k2,rfl⟩:=hmx
 have hs0 : ∀ (code : BoundsCode),(Instr.sliceBound (.int k2 m) cap code).run P w = .ok m.toNat w:=fun code => run_sliceBound rfl cap code ⟨by omega,hb.2.2.2⟩ w
 have hs2 : ∀ (code : BoundsCode),(Instr.sliceBound (.int k1 h) m.toNat code).run P w = .ok h.toNat w:=fun code => run_sliceBound rfl m.toNat code ⟨by omega,by omega⟩ w
 have hs1 : ∀ (k : IntKind) (code : BoundsCode),(Instr.sliceBound (.int k l) h.toNat code).run P w = .ok l.toNat w:=fun k code => run_sliceBound rfl h.toNat code ⟨hb.1,by omega⟩ w
 rcases hlo with ⟨rfl,rfl⟩ | ⟨k,rfl⟩
 ·simp only [Instr.sliceBounds,Sem.run_bind,Sem.run_pure,Result.andThen_ok,hs0,if_true,hs2]; rfl
 ·simp only [Instr.sliceBounds,Sem.run_bind,Sem.run_pure,Result.andThen_ok,hs0,if_true,hs2,Option.isSome_some,hs1]
theorem op_slc3 (hI : Inv B C) (hE : RepE C g a) {t e : TypeId} {x hi mx : Operand} {lo : Option Operand} {q : TI} {ax ah am : AX} {v : AVal} {l h m : Int} {ds : List Dat} {ids : List Id} (ho : o.op = .slice t x lo (some hi) (some mx)) (hx : cX x = some ax)
  (hl : (lo = none ∧ l = 0) ∨ ∃ lo' al,lo = some lo' ∧ cX lo' = some al ∧ zmb7 (evX g al) = some l) (hh : cX hi = some ah) (hm : cX mx = some am)
  (ht : P.underlying t = some (.slice e)) (hq : tI P e = some q) (h2 : zmb7 (evX g ah) = some h) (h3 : zmb7 (evX g am) = some m)
  (hd : zpb7 C.ρ (evX g ax) = some (.sl ds,ids)) (hb : h ≤ m ∧ m ≤ ds.length) (hv : sliceE q.size (.dat (.sl ds)) l (some h) = some v) : Does P o a C.w (Owes B C (fullE (decide (h = m)) v) (frz C.ρ ids)):=by
 obtain ⟨C1,c1,c2,c3,c4,c5,c6⟩:=hI.freeze ids
 have hr : RepA C1 (.dat (.sl ds)) (a.eval x):=by
  simp only [RepA]
  exact zed7 c5.F c6 hd (zia7 hE hx)
 obtain ⟨p,len,cap,e1,e2,e3,e4,e5⟩:=sliceE_rep hv hr
 simp only [Option.getD_some] at e3 e4 e5
 have hlen : len = ds.length ∧ len ≤ cap:=by
  simp only [RepA] at hr
  have:=hr.cell rfl
  simp only [RepD] at this
  obtain ⟨p',cap',q1,q2,q3⟩:=this
  simp only [List.cons.injEq,and_true] at q1
  rw [e1] at q1
  cases q1
  exact ⟨rfl,q2⟩
 obtain ⟨k2,k2'⟩:=zza7 h2 (zia7 hE hh)
 obtain ⟨k3,k3'⟩:=zza7 h3 (zia7 hE hm)
 have hlo : (lo.map a.eval = none ∧ l = 0) ∨ ∃ k,lo.map a.eval = some (.int k l):=by
  rcases hl with ⟨rfl,hl⟩ | ⟨lo',al,rfl,q1,q2⟩
  ·exact .inl ⟨rfl,hl⟩
  ·obtain ⟨k1,k1'⟩:=zza7 q2 (zia7 hE q1)
   exact .inr ⟨k1,by simp [k1']⟩
 have hbd:=run_sliceBounds3 (P:=P) len cap C.w hlo ⟨k2,k2'⟩ ⟨k3,k3'⟩ (l:=l) (h:=h) (m:=m) ⟨e2,e3,hb.1,by omega⟩
 refine .inl ⟨.slice (if m.toNat = l.toNat then p else p.map (·.add (l.toNat * q.size))) (h.toNat - l.toNat) (m.toNat - l.toNat),C.w,?_,C1,c1,c3,c4,c5,?_⟩
 ·simp only [execOp,ho,Instr.sliceAt,Sem.run_bind,run_underlying ht,Result.andThen_ok,Instr.slice,e1,Option.map_some,hbd,run_sizeOf hq,Sem.run_pure]
 ·unfold sliceE at hv
  simp only [Option.getD_some] at hv
  split at hv
  ·rename_i hc
   simp only [Option.some.injEq] at hv
   subst hv
   have key : RepV C1.F (.sl ((ds.drop l.toNat).take (h - l).toNat)) (.slice (if m.toNat = l.toNat then p else p.map (·.add (l.toNat * q.size))) (h.toNat - l.toNat) (m.toNat - l.toNat)) ∧ ((ds.drop l.toNat).take (h - l).toNat).length = h.toNat - l.toNat:=?_
   ·unfold fullE
    by_cases hm' : h = m
    ·simp only [hm',decide_true,if_true,RepA]
     subst hm'
     exact ⟨⟨_,by rw [key.2]⟩,key.1⟩
    ·simp only [hm',decide_false,Bool.false_eq_true,if_false,RepA]
     exact key.1
   simp only [RepA] at e5
   have e5':=e5.cell rfl
   simp only [RepD] at e5'
   obtain ⟨p',cap',q1,q2,q3⟩:=e5'
   simp only [List.cons.injEq,and_true,Value.slice.injEq] at q1
   obtain ⟨q1,q4,q5⟩:=q1
   refine ⟨zjb7 rfl ?_,q4.symm⟩
   simp only [RepD]
   refine ⟨_,m.toNat - l.toNat,by rw [← q4],by rw [← q4]; omega,?_⟩
   rcases q3 with q3 | ⟨b,o',sz,q6,q7⟩
   ·exact .inl q3
   ·by_cases hz : h.toNat = l.toNat
    ·left
     apply List.eq_nil_of_length_eq_zero
     rw [← q4]; omega
    ·refine .inr ⟨b,o',sz,?_,q7⟩
     rw [← q6,← q1,if_neg (by omega),if_neg (by omega)]
  ·cases hv
theorem op_bldS0 (hI : Inv B C) (hE : RepE C g a) {t e : TypeId} {n : Nat} {parts : Array (Nat × Operand)} {q : TI} {axs : List AX} (ho : o.op = .buildSlice t n parts)
  (ht : P.underlying t = some (.slice e)) (hq : tI P e = some q) (hz : q.zero.isSome = true) (hx : cXs (parts.map (·.2)) = some axs) (hn : parts.toList.map (·.1) = List.range n) (hroom : n * q.size ≤ 1048576)
  (hl : axs.length = 0) : Does P o a C.w (Owes B C .cap0 []):=by
 have hps : parts.size = n:=by have:=congrArg List.length hn; simpa using this
 subst hps
 obtain ⟨h1,h2⟩:=bldS_args (C:=C) hE hx hn
 have hp0 : parts.size = 0:=by
  have:=h1.length
  simp [hl] at this
  simp [this]
 have hll : (parts.toList.map fun p => a.eval p.2).length = parts.size:=by simp
 have hnil : (parts.toList.map fun p => a.eval p.2) = []:=List.eq_nil_of_length_eq_zero (by rw [hll,hp0])
 obtain ⟨out,r1,r2⟩:=zdc7 (P:=P) ht hq hz (vs:=parts.toList.map fun p => a.eval p.2) (by rw [hnil]; simp) (by rw [hll]; exact hroom) h2 C.w
 rw [hll] at r2
 have:=hI.allocF out e
 simp only at this
 obtain ⟨d1,d2⟩:=this
 refine .inl ⟨.slice (some ⟨C.w.heap.size,0,none⟩) parts.size parts.size,C.w.alloc (.cells out e),?_,{ w:=C.w.alloc (.cells out e),F:=C.F.add C.w.heap.size out.toList,μ:=C.μ,ρ:=C.ρ },rfl,rfl,d1,d2,?_⟩
 ·simp only [execOp,ho,Sem.run_bind,r2,Result.andThen_ok,Sem.run_pure]
 ·rw [hp0]
  simp only [RepA]
  exact ⟨_,rfl⟩
theorem op_bldSf (hI : Inv B C) (hE : RepE C g a) {t e : TypeId} {n site nv : Nat} {parts : Array (Nat × Operand)} {q : TI} {axs : List AX} (ho : o.op = .buildSlice t n parts)
  (ht : P.underlying t = some (.slice e)) (hq : tI P e = some q) (hq1 : 1 ≤ q.size) (hz : q.zero.isSome = true) (hx : cXs (parts.map (·.2)) = some axs) (hn : parts.toList.map (·.1) = List.range n) (hroom : n * q.size ≤ 1048576)
  (hl : (axs.map (evX g)).all (fun v => v.cells.length == q.size && v.cells.all AVal.leaf) = true) (hid : zhb7 C.ρ (nid site) = some nv) :
  Does P o a C.w (Owes B C (.rsl (nid site) nv q.size 0 (axs.map (evX g)).length) [(nid site,.rarr q.size nv ((axs.map (evX g)).map AVal.cells))]):=by
 have hps : parts.size = n:=by have:=congrArg List.length hn; simpa using this
 subst hps
 obtain ⟨h1,h2⟩:=bldS_args (C:=C) hE hx hn
 have hl1 : ∀ v ∈ axs.map (evX g),v.cells.length = q.size ∧ v.cells.all AVal.leaf = true:=by
  intro v hv
  rw [List.all_eq_true] at hl
  have:=hl v hv
  simpa using this
 have hl2 : (axs.map (evX g)).all (fun v => v.cells.all AVal.leaf) = true:=by
  rw [List.all_eq_true]; exact fun v hv => (hl1 v hv).2
 obtain ⟨k1,k2⟩:=repL_flat h1 hl2
 have hsz : ∀ v ∈ (parts.toList.map fun p => a.eval p.2),v.cells.size = q.size:=by
  intro c hc
  obtain ⟨i,hi⟩:=List.getElem?_of_mem hc
  obtain ⟨x,hx⟩ : ∃ x,(axs.map (evX g))[i]? = some x:=⟨_,List.getElem?_eq_getElem (by rw [← h1.length]; exact (List.getElem?_eq_some_iff.1 hi).1)⟩
  obtain ⟨c',e1,e2⟩:=h1.get hx
  rw [hi] at e1
  cases e1
  obtain ⟨p1,p2⟩:=hl1 x (List.mem_of_getElem? hx)
  have:=(e2.cells p2).1.length
  simpa [p1] using this
 have hll : (parts.toList.map fun p => a.eval p.2).length = parts.size:=by simp
 obtain ⟨out,r1,r2⟩:=zdc7 (P:=P) ht hq hz (vs:=parts.toList.map fun p => a.eval p.2) hsz (by rw [hll]; exact hroom) h2 C.w
 rw [← List.flatMap_def] at r1
 rw [hll] at r2
 have hax : (axs.map (evX g)).length = parts.size:=by have:=h1.length; simpa using this.symm
 have hfl : ((axs.map (evX g)).map AVal.cells).flatten = (axs.map (evX g)).flatMap AVal.cells:=by rw [List.flatMap_def]
 have hlen : ((axs.map (evX g)).flatMap AVal.cells).length = parts.size * q.size:=by
  rw [flatMap_len _ _ fun v hv => (hl1 v hv).1,hax]
 have hsize : out.size = parts.size * q.size:=by
  have:=k1.length
  rw [← r1,hlen] at this
  simpa using this
 obtain ⟨C',w1,w2,w3,w4,w5⟩:=rarr_new hI (id:=nid site) (nv:=nv) hid hq1 (es:=(axs.map (evX g)).map AVal.cells) (fun row hr => by
   obtain ⟨v,hv,rfl⟩:=List.mem_map.1 hr
   exact (hl1 v hv).1) (cs:=out) parts.size (by
   rw [hfl,List.all_eq_true]
   intro x hx
   obtain ⟨v,hv,hxv⟩:=List.mem_flatMap.1 hx
   exact List.all_eq_true.1 (hl1 v hv).2 x hxv) (by
   rw [hfl,hlen,List.take_of_length_le (by simp [hsize]),r1]
   exact k1) hsize (by rw [List.length_map,hax]; exact Nat.le_refl _) e
 rw [List.length_map] at w5
 refine .inl ⟨.slice (some ⟨C.w.heap.size,0,none⟩) parts.size parts.size,C.w.alloc (.cells out e),?_,C',w1,w2,w3,w4,?_⟩
 ·simp only [execOp,ho,Sem.run_bind,r2,Result.andThen_ok,Sem.run_pure]
 ·rw [hax] at w5 ⊢
  exact w5
theorem row_cells {C : Ctx} {sz : Nat} {w : World} {b : Nat} : ∀ {rows : List (List AVal)} {o : Nat},(∀ row ∈ rows,row.length = sz) → (∀ (i : Nat) (x : AVal),rows.flatten[i]? = some x → ∃ v,w.cell? ⟨b,o + i,none⟩ = some v ∧ RepA C x v) →
  ∃ cs : List Value,cs.length = rows.flatten.length ∧ (∀ (j : Nat) (v : Value),cs[j]? = some v → w.cell? ⟨b,o + j,none⟩ = some v) ∧ RepL C rows.flatten cs:=by
 intro rows o hr h
 obtain ⟨cs,f1,f2⟩:=zmd7 (w:=w) (b:=b) rows.flatten.length o (fun j hj => by
  obtain ⟨v,hv,_⟩:=h j rows.flatten[j] (List.getElem?_eq_getElem hj)
  exact ⟨v,hv⟩)
 refine ⟨cs,f1,f2,repL_of f1 fun i x v hi hv => ?_⟩
 obtain ⟨u,hu,hx⟩:=h i x hi
 rw [f2 i v hv] at hu
 cases hu
 exact hx
theorem rsrc_src (hI : Inv B C) {sz : Nat} {x : AVal} {rows : List (List AVal)} {val : Value} (h : rsrcOf C.ρ sz x = some rows) (hr : RepA C x val) :
  ∃ cs : List Value,RepL C rows.flatten cs ∧ rows.flatten.all AVal.leaf = true ∧ (∀ v ∈ cs,v.oneCell' = true) ∧ (∀ row ∈ rows,row.length = sz) ∧ (∀ w,(Builtin.lenOf val).run P w = .ok rows.length w) ∧
  ∀ w,(∀ ad,w.cell? ad = C.w.cell? ad) → (Builtin.firstCells sz rows.length val).run P w = .ok cs.toArray w:=by
 unfold rsrcOf at h
 split at h
 ·rename_i szl k ws
  split at h
  ·rename_i e
   subst e
   cases h
   obtain ⟨cs,c1,c2,c3,c3',c4,c5⟩:=lits_src (P:=P) hI hr
   obtain ⟨k1,k2,k3⟩:=chunk_spec k c3'
   exact ⟨cs,by rw [k2]; exact c1,by rw [k2]; exact c2,c3,k3,by rw [k1]; exact c4,by rw [k1]; exact c5⟩
  ·cases h
 ·cases h
  simp only [RepA] at hr
  subst hr
  exact ⟨[],by simp [RepL],rfl,by simp,by simp,fun w => rfl,fun w hw => zlb7 (by simp) (by simp)⟩
 ·cases h
  simp only [RepA] at hr
  obtain ⟨a',cap,rfl,_⟩:=hr
  exact ⟨[],by simp [RepL],rfl,by simp,by simp,fun w => rfl,fun w hw => zlb7 (by simp) (by simp)⟩
 ·cases h
  simp only [RepA] at hr
  obtain ⟨a',rfl⟩:=hr
  exact ⟨[],by simp [RepL],rfl,by simp,by simp,fun w => rfl,fun w hw => zlb7 (by simp) (by simp)⟩
 ·rename_i id ver sz' off len
  split at h
  ·rename_i sz'' ver' es hρ
   split at h
   ·rename_i hc
    obtain ⟨rfl,rfl,rfl,hle⟩:=hc
    cases h
    obtain ⟨o1,o2,o3,o3',oown,oel⟩:=rarr_ok.1 (hI.objs id _ hρ)
    simp only [RepA] at hr
    obtain ⟨A,p,cap,a1,a2,a3,a4,a5,a6⟩:=hr
    have hA : A = ⟨ver,sz,es.length,C.μ id⟩:=by simpa [arrAt,hρ] using a1.symm
    subst hA
    obtain ⟨g1,g2,g3,g4⟩:=a6 rfl
    have hrows : ∀ row ∈ (es.drop off).take len,row.length = sz:=fun row hm => o3 row (List.drop_subset _ _ (List.take_subset _ _ hm))
    have hlen : ((es.drop off).take len).length = len:=by simp; omega
    have hdrop : (es.drop off).flatten = es.flatten.drop (off * sz):=by
     have h1 : es.flatten = (es.take off).flatten ++ (es.drop off).flatten:=by rw [← List.flatten_append,List.take_append_drop]
     have h2 : (es.take off).flatten.length = off * sz:=by
      rw [zyb7 (sz:=sz) fun row hm => o3 row (List.take_subset _ _ hm)]
      simp; congr 1; omega
     rw [h1,← h2,List.drop_left]
    have hflat : ((es.drop off).take len).flatten = (es.flatten.drop (off * sz)).take (len * sz):=by
     have h1 : (es.drop off).flatten = ((es.drop off).take len).flatten ++ ((es.drop off).drop len).flatten:=by rw [← List.flatten_append,List.take_append_drop]
     have h2 : ((es.drop off).take len).flatten.length = len * sz:=by rw [zyb7 hrows,hlen]
     rw [← hdrop,h1,← h2,List.take_left]
    obtain ⟨cs,f1,f2,f3⟩:=row_cells (C:=C) (w:=C.w) (b:=(C.μ id).b) (o:=(C.μ id).o + off * sz) hrows (fun i y hi => by
     rw [hflat,List.getElem?_take] at hi
     split at hi
     ·rw [List.getElem?_drop] at hi
      obtain ⟨v,hv,hx⟩:=oel _ _ hi
      exact ⟨v,by rw [Nat.add_assoc]; exact hv,hx⟩
     ·cases hi)
    have hall : ((es.drop off).take len).flatten.all AVal.leaf = true:=by
     rw [List.all_eq_true] at o3' ⊢
     intro y hy
     apply o3' y
     rw [hflat] at hy
     exact List.drop_subset _ _ (List.take_subset _ _ hy)
    have hfl : ((es.drop off).take len).flatten.length = len * sz:=by rw [zyb7 hrows,hlen]
    refine ⟨cs,f3,hall,fun v hv => ?_,hrows,by rw [hlen,a3]; exact fun w => rfl,fun w hw => ?_⟩
    ·obtain ⟨j,hj⟩:=List.getElem?_of_mem hv
     have hj' : j < ((es.drop off).take len).flatten.length:=by rw [← f1]; exact (List.getElem?_eq_some_iff.1 hj).1
     have hl:=List.all_eq_true.1 hall _ (List.getElem_mem hj')
     obtain ⟨c,hc1,hc2⟩:=f3.get (List.getElem?_eq_getElem hj')
     rw [hj] at hc1
     cases hc1
     exact (hc2.leaf hl).1
    ·rw [hlen,a3]
     refine zlb7 (by rw [f1,hfl]) fun hp => ?_
     have hc0 : 0 < cap:=by
      rcases Nat.eq_zero_or_pos len with h0 | h0
      ·rw [f1,hfl,h0] at hp; simp at hp
      ·omega
     exact ⟨_,_,g4 hc0,fun j v hj => by rw [hw]; exact f2 j v hj⟩
   ·cases h
  ·cases h
 ·cases h
theorem op_appR' (hI : Inv B C) {c : Call} {x y : Operand} {sT xT e : TypeId} {q : TI} {id : Id} {ver len : Nat} {es0 rows : List (List AVal)} {ay : AVal} (ho : o.op = .call c) (hc : c.callee = .builtin .append) (ha : c.args = #[x,y])
  (h0 : c.argTypes[0]? = some sT) (h1 : c.argTypes[1]? = some xT) (hs : P.underlying sT = some (.slice e)) (hxt : (∃ e',P.underlying xT = some (.slice e')) ∨ P.underlying xT = some .string) (hq : tI P e = some q) (hok : ∃ l,q.zero = some l ∧ l.length = q.size)
  (hrx : RepA C (.rsl id ver q.size 0 len) (a.eval x)) (hY : rsrcOf C.ρ q.size ay = some rows) (hry : RepA C ay (a.eval y)) (hρ : C.ρ id = some (.rarr q.size ver es0)) (hlen0 : len ≤ es0.length) (hd : rows.length ≠ 0)
  (hroom : (len + rows.length) * (q.bytes + 1) ≤ room) :
  Does P o a C.w (Owes B C (.rsl id (ver + 1) q.size 0 (len + rows.length)) [(id,.rarr q.size (ver + 1) (preN len es0 ++ rows))]):=by
 obtain ⟨o1,o2,p3,p3',oown,oel0⟩:=rarr_ok.1 (hI.objs id _ hρ)
 obtain ⟨cs,c1,c2,c3,k3,c4,c5⟩:=rsrc_src (P:=P) hI hY hry
 rw [preN_take]
 have hlen : len = (es0.take len).length:=by simp [List.length_take]; omega
 have hpre : (es0.take len).flatten = es0.flatten.take (len * q.size):=by
  have h1 : es0.flatten = (es0.take len).flatten ++ (es0.drop len).flatten:=by rw [← List.flatten_append,List.take_append_drop]
  have h2 : (es0.take len).flatten.length = len * q.size:=by
   rw [zyb7 (sz:=q.size) fun row hm => p3 row (List.take_subset _ _ hm),← hlen]
  rw [h1,← h2,List.take_left]
 have o3 : ∀ row ∈ es0.take len,row.length = q.size:=fun row hm => p3 row (List.take_subset _ _ hm)
 have o3' : (es0.take len).flatten.all AVal.leaf = true:=by
  rw [List.all_eq_true] at p3' ⊢
  intro y hy
  rw [hpre] at hy
  exact p3' y (List.take_subset _ _ hy)
 have oel:=fun (i : Nat) (d : AVal) (hd : (es0.take len).flatten[i]? = some d) => oel0 i d (by
  rw [hpre,List.getElem?_take] at hd
  split at hd
  ·exact hd
  ·cases hd)
 have hA0 : (es0.take len).length ≤ es0.length:=by simp [List.length_take]; omega
 have c3' : rows.flatten.length = rows.length * q.size:=zyb7 k3
 have k1 : rows.length = rows.length:=rfl
 generalize es0.take len = es at hlen oel hA0 o3 o3' ⊢
 simp only [RepA] at hrx
 obtain ⟨A,p,cap,a1,a2,a3,a4,a5,a6⟩:=hrx
 have hA : A = ⟨ver,q.size,es0.length,C.μ id⟩:=by simpa [arrAt,hρ] using a1.symm
 subst hA
 obtain ⟨g1,g2,g3,g4⟩:=a6 rfl
 simp only [Nat.zero_add,Nat.zero_mul,Nat.add_zero] at g3 g4
 have hargs : c.args.map a.eval = #[a.eval x,a.eval y]:=by rw [ha]; simp
 have hexec : ∀ v w',(Builtin.append_ c.argTypes o.type #[a.eval x,a.eval y]).run P C.w = .ok v w' → (execOp a.eval o).run P C.w = .ok (.value v) w':=by
  intro v w' h
  simp only [execOp,ho,resolve,hc,Sem.run_bind,Sem.run_pure,Result.andThen_ok,invoke,builtin,hargs,h]
 have hzs:=zse7 hq hok
 have hz : q.zero.isSome = true:=by obtain ⟨l,hl,_⟩:=hok; simp [hl]
 have hfl : es.flatten.length = es.length * q.size:=zyb7 o3
 obtain ⟨old,f1,f2⟩:=zmd7 (w:=C.w) (b:=(C.μ id).b) es.flatten.length (C.μ id).o (fun j hj => by
  obtain ⟨v,hv,_⟩:=oel j es.flatten[j] (List.getElem?_eq_getElem hj)
  exact ⟨v,hv⟩)
 have hrold : RepL C es.flatten old:=repL_of f1 fun i x v hi hv => by
  obtain ⟨u,hu,hx⟩:=oel i x hi
  rw [f2 i v hv] at hu
  cases hu
  exact hx
 have hcl : cs.length = rows.length * q.size:=by rw [c1.length,c3']
 have happ:=run_app (P:=P) (ty:=o.type) (w:=C.w) (base:=p) (len:=len) (cap:=cap) (b:=(C.μ id).b) (p:=(C.μ id).o) (x:=a.eval y) (n:=rows.length) (old:=old) (news:=cs) h0 h1 hs hxt hq hz c4
  (fun w' hw' => c5 w' hw') hcl c3 g4 a4
  (by rw [f1,hfl,hlen]) f2 (fun _ j hj => by
   rw [← g3] at hj
   exact ⟨(oown j hj).1,(oown j hj).2.1⟩) hroom (by omega) hzs
 have hrows : ∀ row ∈ es ++ rows,row.length = q.size:=by
  intro row hr
  rcases List.mem_append.1 hr with hr | hr
  ·exact o3 row hr
  ·exact k3 row hr
 have hflat : (es ++ rows).flatten = es.flatten ++ rows.flatten:=by rw [List.flatten_append]
 have hall : (es ++ rows).flatten.all AVal.leaf = true:=by rw [hflat,List.all_append,o3',c2]; rfl
 rcases happ with ⟨r1,r2,r3⟩ | ⟨cap',out,r1,r2,r3,r4⟩
 ·have hfit : len * q.size + cs.length ≤ (C.μ id).n:=by
   rw [g3,hcl,← Nat.add_mul]
   exact Nat.mul_le_mul_right _ r1
  have hw:=hI.write hρ rfl (len * q.size) cs (ob':=.rarr q.size (ver + 1) (es ++ rows)) hfit ⟨Nat.le_succ _,fun e => by omega⟩ (fun C' e1 e2 hg ho' => by
   refine rarr_ok.2 ⟨o1,⟨cap,g3,by simp; omega⟩,hrows,hall,ho',fun i d hd => ?_⟩
   have hwc:=zod7 hI hρ rfl hfit
   rw [hflat] at hd
   rcases Nat.lt_or_ge i es.flatten.length with hlt | hge
   ·rw [List.getElem?_append_left hlt] at hd
    obtain ⟨v,hv,hr⟩:=oel i d hd
    exact ⟨v,by rw [e1,hwc,if_neg (by rw [hlen]; omega)]; exact hv,hr.grow hg⟩
   ·rw [List.getElem?_append_right hge] at hd
    obtain ⟨v,hv,hr⟩:=c1.get hd
    have:=(List.getElem?_eq_some_iff.1 hv).1
    exact ⟨v,by rw [e1,hwc,if_pos (by rw [hlen]; omega),← hv]; congr 1; rw [hlen]; omega,hr.grow hg⟩)
  simp only at hw
  refine .inl ⟨_,_,hexec _ _ (by rw [a3]; exact r3),_,rfl,rfl,hw.1,hw.2,?_⟩
  simp only [RepA]
  refine ⟨⟨ver + 1,q.size,(es ++ rows).length,C.μ id⟩,p,cap,by simp [arrAt,updL],Nat.le_refl _,rfl,r1,a5,fun _ => ⟨rfl,by simp; omega,by simpa using g3,by simpa using g4⟩⟩
 ·obtain ⟨I1,G1⟩:=hI.drew
  have hnv : zhb7 C.ρ id = some (ver + 1):=by simp [zhb7,hρ]
  have hl2 : (es ++ rows).length = len + rows.length:=by simp [hlen]
  have hnew:=rarr_new I1 (id:=id) (nv:=ver + 1) hnv o1 (es:=es ++ rows) hrows (cs:=out) cap' hall (by
   rw [hflat,List.length_append,hfl,c3',← hlen,← Nat.add_mul,r3]
   exact (hrold.grow G1).append (c1.grow G1)) r2 (by omega) e
  obtain ⟨C',w1,w2,w3,w4,w5⟩:=hnew
  refine .inl ⟨_,_,hexec _ _ (by rw [a3]; exact r4),C',w1,w2,w3,G1.trans w4,?_⟩
  rw [hl2] at w5
  exact w5
theorem op_appR (hI : Inv B C) (hE : RepE C g a) {c : Call} {x y : Operand} {sT xT e : TypeId} {q : TI} {ax ay : AX} {id : Id} {ver len : Nat} {es rows : List (List AVal)} (ho : o.op = .call c) (hc : c.callee = .builtin .append) (ha : c.args = #[x,y])
  (h0 : c.argTypes[0]? = some sT) (h1 : c.argTypes[1]? = some xT) (hs : P.underlying sT = some (.slice e)) (hxt : (∃ e',P.underlying xT = some (.slice e')) ∨ P.underlying xT = some .string) (hq : tI P e = some q) (hok : ∃ l,q.zero = some l ∧ l.length = q.size)
  (hx : cX x = some ax) (hy : cX y = some ay) (hX : evX g ax = .rsl id ver q.size 0 len) (hρ : C.ρ id = some (.rarr q.size ver es)) (hY : rsrcOf C.ρ q.size (evX g ay) = some rows) (hlen : len ≤ es.length) (hd : rows.length ≠ 0)
  (hroom : (len + rows.length) * (q.bytes + 1) ≤ room) :
  Does P o a C.w (Owes B C (.rsl id (ver + 1) q.size 0 (len + rows.length)) [(id,.rarr q.size (ver + 1) (preN len es ++ rows))]) :=
 op_appR' hI ho hc ha h0 h1 hs hxt hq hok (by rw [← hX]; exact zia7 hE hx) hY (zia7 hE hy) hρ hlen hd hroom
theorem op_appZ (hI : Inv B C) (hE : RepE C g a) {c : Call} {x y : Operand} {sT xT e : TypeId} {q : TI} {ax ay : AX} {v : AVal} (ho : o.op = .call c) (hc : c.callee = .builtin .append) (ha : c.args = #[x,y])
  (h0 : c.argTypes[0]? = some sT) (h1 : c.argTypes[1]? = some xT) (hs : P.underlying sT = some (.slice e)) (hxt : (∃ e',P.underlying xT = some (.slice e')) ∨ P.underlying xT = some .string) (hq : tI P e = some q)
  (hx : cX x = some ax) (hy : cX y = some ay) (hsl : ∃ p len cap,a.eval x = .slice p len cap ∧ len ≤ cap) (hY : rsrcOf C.ρ q.size (evX g ay) = some []) (hv : v = evX g ax) :
  Does P o a C.w (Owes B C v []):=by
 obtain ⟨p,len,cap,a3,a4⟩:=hsl
 obtain ⟨cs,c1,c2,c3,k3,c4,c5⟩:=rsrc_src (P:=P) hI hY (zia7 hE hy)
 have hcs : cs = []:=by simpa [RepL] using c1
 subst hcs
 have hargs : c.args.map a.eval = #[a.eval x,a.eval y]:=by rw [ha]; simp
 have hexec : ∀ v w',(Builtin.append_ c.argTypes o.type #[a.eval x,a.eval y]).run P C.w = .ok v w' → (execOp a.eval o).run P C.w = .ok (.value v) w':=by
  intro v w' h
  simp only [execOp,ho,resolve,hc,Sem.run_bind,Sem.run_pure,Result.andThen_ok,invoke,builtin,hargs,h]
 refine .inl ⟨a.eval x,C.w,hexec _ _ ?_,C,rfl,rfl,hI,Grow.refl C,by rw [hv]; exact zia7 hE hx⟩
 have hf:=c5 C.w (fun _ => rfl)
 simp only [List.length_nil] at hf c4
 rw [a3]
 unfold Builtin.append_
 simp only [h0,h1,List.getElem?_toArray,List.getElem?_cons_zero,List.getElem?_cons_succ]
 rcases hxt with ⟨e',hxt⟩ | hxt <;>
 simp only [Sem.run_bind,run_underlying hs,Result.andThen_ok,run_sizeOf hq,run_underlying hxt,Sem.run_pure,Bool.false_eq_true,if_false,c4,a4,if_true,Bool.not_false,hf,Nat.add_zero] <;>
 (cases p <;> simp only [storeCells,Sem.run_pure,Sem.run_bind,Result.andThen_ok])
theorem zye7 (hI : Inv B C) {c : Call} {x y : Operand} {sT xT e : TypeId} {q : TI} {site nv : Nat} {rows : List (List AVal)} {ay : AVal} (ho : o.op = .call c) (hc : c.callee = .builtin .append) (ha : c.args = #[x,y])
  (h0 : c.argTypes[0]? = some sT) (h1 : c.argTypes[1]? = some xT) (hs : P.underlying sT = some (.slice e)) (hxt : (∃ e',P.underlying xT = some (.slice e')) ∨ P.underlying xT = some .string) (hq : tI P e = some q) (hok : ∃ l,q.zero = some l ∧ l.length = q.size) (hq1 : 1 ≤ q.size)
  (hrx : ∃ p,a.eval x = .slice p 0 0) (hY : rsrcOf C.ρ q.size ay = some rows) (hry : RepA C ay (a.eval y)) (hid : zhb7 C.ρ (nid site) = some nv) (hd : rows.length ≠ 0)
  (hroom : rows.length * (q.bytes + 1) ≤ room) :
  Does P o a C.w (Owes B C (.rsl (nid site) nv q.size 0 rows.length) [(nid site,.rarr q.size nv rows)]):=by
 obtain ⟨p,hrx⟩:=hrx
 obtain ⟨cs,c1,c2,c3,k3,c4,c5⟩:=rsrc_src (P:=P) hI hY hry
 have c3' : rows.flatten.length = rows.length * q.size:=zyb7 k3
 have hargs : c.args.map a.eval = #[a.eval x,a.eval y]:=by rw [ha]; simp
 have hexec : ∀ v w',(Builtin.append_ c.argTypes o.type #[a.eval x,a.eval y]).run P C.w = .ok v w' → (execOp a.eval o).run P C.w = .ok (.value v) w':=by
  intro v w' h
  simp only [execOp,ho,resolve,hc,Sem.run_bind,Sem.run_pure,Result.andThen_ok,invoke,builtin,hargs,h]
 have hzs:=zse7 hq hok
 have hz : q.zero.isSome = true:=by obtain ⟨l,hl,_⟩:=hok; simp [hl]
 have hcl : cs.length = rows.length * q.size:=by rw [c1.length,c3']
 have happ:=run_app (P:=P) (ty:=o.type) (w:=C.w) (base:=p) (len:=0) (cap:=0) (b:=0) (p:=0) (x:=a.eval y) (n:=rows.length) (old:=[]) (news:=cs) h0 h1 hs hxt hq hz c4
  (fun w' hw' => c5 w' hw') hcl c3 (by simp) (Nat.le_refl _) (by simp) (by simp) (by simp) (by simpa using hroom) (by omega) hzs
 rcases happ with ⟨r1,r2,r3⟩ | ⟨cap',out,r1,r2,r3,r4⟩
 ·omega
 ·obtain ⟨I1,G1⟩:=hI.drew
  have hnew:=rarr_new I1 (id:=nid site) (nv:=nv) hid hq1 (es:=rows) k3 (cs:=out) cap' c2 (by
   simp only [Nat.zero_add,List.nil_append] at r3
   rw [c3',r3]; exact c1.grow G1) r2 (by omega) e
  obtain ⟨C',w1,w2,w3,w4,w5⟩:=hnew
  simp only [Nat.zero_add] at r4
  exact .inl ⟨_,_,hexec _ _ (by rw [hrx]; exact r4),C',w1,w2,w3,G1.trans w4,w5⟩
theorem arr_write (hI : Inv B C) {id : Id} {sz ver off : Nat} {es ds : List Dat} (hρ : C.ρ id = some (.arr sz ver false es)) {cs : List Value} (hf : FlatD C.F sz ds cs) (hb : off + ds.length ≤ es.length) :
  off * sz + cs.length ≤ (C.μ id).n ∧
  let C' : Ctx:={ w:=C.w.setCells (C.μ id).b ((C.μ id).o + off * sz) cs,F:=C.F,μ:=C.μ,ρ:=updL C.ρ [(id,.arr sz ver false (splice es off ds))] }
  Inv B C' ∧ Grow C C':=by
 obtain ⟨o1,⟨cap,o2,o2'⟩,o3,_⟩:=hI.objs id _ hρ
 obtain ⟨oown,oel⟩:=o3 rfl
 have hcl:=hf.length
 have hfit : off * sz + cs.length ≤ (C.μ id).n:=by
  rw [hcl,o2,← Nat.add_mul]
  exact Nat.mul_le_mul_right _ (by omega)
 refine ⟨hfit,?_⟩
 refine hI.write hρ rfl (off * sz) cs (ob':=.arr sz ver false (splice es off ds)) hfit ⟨Nat.le_refl _,fun _ => ⟨rfl,by rw [length_splice _ _ _ hb]; exact Nat.le_refl _⟩⟩ (fun C' e1 e2 hg ho' => ?_)
 refine ⟨o1,⟨cap,o2,by rw [length_splice _ _ _ hb]; exact o2'⟩,fun _ => ⟨ho',fun i d hd => ?_⟩,fun e => by cases e⟩
 have hwc:=zod7 hI hρ rfl hfit
 rw [splice_get hb] at hd
 have old : (i < off ∨ off + ds.length ≤ i) → es[i]? = some d → ∃ c,c.length = sz ∧ RepD C'.F d c ∧ ∀ (j : Nat) (v : Value),c[j]? = some v → C'.w.cell? ⟨(C.μ id).b,(C.μ id).o + i * sz + j,none⟩ = some v:=by
  intro hi hd
  obtain ⟨c,q1,q2,q3⟩:=oel i d hd
  refine ⟨c,q1,RepD.mono hg.F _ _ q2,fun j v hj => ?_⟩
  have hj' : j < sz:=by rw [← q1]; exact (List.getElem?_eq_some_iff.1 hj).1
  rw [e1,Nat.add_assoc,hwc,if_neg,← Nat.add_assoc]
  ·exact q3 j v hj
  ·rw [hcl]
   intro hcon
   rcases hi with hi | hi
   ·have : (i + 1) * sz ≤ off * sz:=Nat.mul_le_mul_right _ hi
    rw [Nat.add_mul] at this
    omega
   ·have : (off + ds.length) * sz ≤ i * sz:=Nat.mul_le_mul_right _ hi
    rw [Nat.add_mul] at this
    omega
 by_cases h1 : i < off
 ·rw [if_pos h1] at hd
  exact old (.inl h1) hd
 ·rw [if_neg h1] at hd
  by_cases h2 : i < off + ds.length
  ·rw [if_pos h2] at hd
   obtain ⟨c,q1,q2,q3⟩:=hf.get hd
   refine ⟨c,q1,RepD.mono hg.F _ _ q2,fun j v hj => ?_⟩
   have hlt:=(List.getElem?_eq_some_iff.1 (q3 j v hj)).1
   have e3 : off * sz + (i - off) * sz = i * sz:=by rw [← Nat.add_mul]; congr 1; omega
   rw [e1,Nat.add_assoc,hwc,if_pos (by omega),← q3 j v hj]
   congr 1; omega
  ·rw [if_neg h2] at hd
   exact old (.inr (by omega)) hd
theorem FlatD.take {F : Froz} {sz : Nat} : ∀ {ds : List Dat} {cs : List Value},FlatD F sz ds cs → ∀ n,FlatD F sz (ds.take n) (cs.take (n * sz))
 | [],cs,h,n => by simp only [FlatD] at h; subst h; simp [FlatD]
 | d :: r,cs,h,0 => by simp [FlatD]
 | d :: r,cs,h,n + 1 => by
  simp only [FlatD] at h
  obtain ⟨c,cs',rfl,h1,h2,h3⟩:=h
  simp only [List.take_succ_cons,FlatD]
  refine ⟨c,cs'.take (n * sz),?_,h1,h2,h3.take n⟩
  rw [show (n + 1) * sz = c.length + n * sz by rw [h1,Nat.add_mul]; omega,List.take_length_add_append]
theorem op_cpy (hI : Inv B C) (hE : RepE C g a) {c : Call} {x y : Operand} {sT e : TypeId} {q : TI} {ax ay : AX} {id : Id} {ver off len : Nat} {es ds : List Dat} (ho : o.op = .call c) (hc : c.callee = .builtin .copy) (ha : c.args = #[x,y])
  (h0 : c.argTypes[0]? = some sT) (hs : P.underlying sT = some (.slice e)) (hq : tI P e = some q)
  (hx : cX x = some ax) (hy : cX y = some ay) (hX : evX g ax = .rsl id ver q.size off len) (hρ : C.ρ id = some (.arr q.size ver false es)) (hY : srcOf C.ρ q.size (evX g ay) = some ds) (hb : off + len ≤ es.length) :
  Does P o a C.w (Owes B C (.dat (.int .i64 (min ds.length len : Nat))) [(id,.arr q.size ver false (splice es off (ds.take len)))]):=by
 have hrx:=zia7 hE hx
 rw [hX] at hrx
 obtain ⟨o1,⟨cp,o2,o2'⟩,o3,_⟩:=hI.objs id _ hρ
 obtain ⟨cs,c1,c2,c3⟩:=ztf7 (P:=P) hI o1 hY (zia7 hE hy)
 simp only [RepA] at hrx
 obtain ⟨A,p,cap,a1,a2,a3,a4,a5,a6⟩:=hrx
 have hA : A = ⟨ver,q.size,es.length,C.μ id⟩:=by simpa [arrAt,hρ] using a1.symm
 subst hA
 obtain ⟨g1,g2,g3,g4⟩:=a6 rfl
 have hargs : c.args.map a.eval = #[a.eval x,a.eval y]:=by rw [ha]; simp
 have hmin : ∀ m,Nat.min ds.length len = m → ds.take len = ds.take m ∧ (ds.take m).length = m:=by
  intro m hm
  subst hm
  refine ⟨?_,by simp⟩
  rcases Nat.le_total ds.length len with h | h
  ·have : Nat.min ds.length len = ds.length:=Nat.min_eq_left h
   rw [this,List.take_of_length_le h,List.take_length]
  ·have : Nat.min ds.length len = len:=Nat.min_eq_right h
   rw [this]
 obtain ⟨hm1,hm2⟩:=hmin _ rfl
 have hft:=c1.take (Nat.min ds.length len)
 obtain ⟨hfit,hw⟩:=arr_write hI hρ hft (off:=off) (by rw [hm2]; exact Nat.le_trans (Nat.add_le_add_left (Nat.min_le_right ds.length len) off) hb)
 simp only at hw
 have hcells:=c3 (Nat.min ds.length len) (Nat.min_le_left _ _) C.w (fun _ => rfl)
 have hrun:=run_write (P:=P) hI hρ rfl hfit (hft.one)
 refine .inl ⟨.int .i64 (min ds.length len : Nat),_,?_,_,rfl,by rw [hm1],hw.1,hw.2,zqa7 _ _ _⟩
 have hcopy : (Builtin.copy_ c.argTypes o.type #[a.eval x,a.eval y]).run P C.w = .ok (.int .i64 (min ds.length len : Nat)) (C.w.setCells (C.μ id).b ((C.μ id).o + off * q.size) (cs.take (Nat.min ds.length len * q.size))):=by
  rw [a3]
  unfold Builtin.copy_
  simp only [h0,List.getElem?_toArray,List.getElem?_cons_zero,List.getElem?_cons_succ,Sem.run_bind,run_underlying hs,Result.andThen_ok,c2,run_sizeOf hq,hcells]
  cases p with
  | none =>
   have hz : len = 0:=by
    rcases Nat.eq_zero_or_pos len with h | h
    ·exact h
    ·have:=a5 (by omega); simp at this
   subst hz
   simp [World.setCells,goInt]
  | some p =>
   by_cases hcap : 0 < cap
   ·have:=g4 hcap
    simp only [Option.some.injEq] at this
    subst this
    simp only [Sem.run_bind,hrun,Result.andThen_ok,Sem.run_pure]
    rfl
   ·have hz : len = 0:=by omega
    subst hz
    simp [World.setCells,goInt,storeCells]
 simp only [execOp,ho,resolve,hc,Sem.run_bind,Sem.run_pure,Result.andThen_ok,invoke,builtin,hargs,hcopy]
theorem op_clr (hI : Inv B C) (hE : RepE C g a) {c : Call} {x : Operand} {sT e : TypeId} {q : TI} {ax : AX} {zero : List AVal} {z : Dat} {id : Id} {ver off len : Nat} {es : List Dat} (ho : o.op = .call c) (hc : c.callee = .builtin .clear) (ha : c.args = #[x])
  (h0 : c.argTypes[0]? = some sT) (hs : P.underlying sT = some (.slice e)) (hq : tI P e = some q) (hz : q.zero = some zero) (hd : zrc7 zero = some z) (hw : z.width = q.size)
  (hx : cX x = some ax) (hX : evX g ax = .rsl id ver q.size off len) (hρ : C.ρ id = some (.arr q.size ver false es)) (hb : off + len ≤ es.length) :
  Does P o a C.w (Owes B C (.tup []) [(id,.arr q.size ver false (splice es off (List.replicate len z)))]):=by
 have hrx:=zia7 hE hx
 rw [hX] at hrx
 obtain ⟨v,hv,hvs,hrep⟩:=mk_zero hq hz hd hw
 simp only [RepA] at hrx
 obtain ⟨A,p,cap,a1,a2,a3,a4,a5,a6⟩:=hrx
 have hA : A = ⟨ver,q.size,es.length,C.μ id⟩:=by simpa [arrAt,hρ] using a1.symm
 subst hA
 obtain ⟨g1,g2,g3,g4⟩:=a6 rfl
 have hargs : c.args.map a.eval = #[a.eval x]:=by rw [ha]; simp
 have hft : FlatD C.F q.size (List.replicate len z) (List.replicate len v.cells.toList).flatten:=by
  rw [← hw]; exact zoc7 (hrep _) _
 obtain ⟨hfit,hwr⟩:=arr_write hI hρ hft (off:=off) (by simpa using hb)
 simp only at hwr
 have hrun:=run_write (P:=P) hI hρ rfl hfit (hft.one)
 have hflat:=zrf7 v.cells len
 refine .inl ⟨.tuple #[],_,?_,_,rfl,rfl,hwr.1,hwr.2,by simp [RepA,RepL]⟩
 have hclear : (Builtin.clear_ c.argTypes o.type #[a.eval x]).run P C.w = .ok (.tuple #[]) (C.w.setCells (C.μ id).b ((C.μ id).o + off * q.size) (List.replicate len v.cells.toList).flatten):=by
  rw [a3]
  unfold Builtin.clear_
  simp only [h0,List.getElem?_toArray,List.getElem?_cons_zero,List.getElem?_cons_succ,Sem.run_bind,run_underlying hs,Result.andThen_ok]
  rcases Nat.eq_zero_or_pos len with hl | hl
  ·subst hl
   cases p <;> simp [World.setCells]
  ·cases p with
   | none => have:=a5 (by omega); simp at this
   | some p =>
    have:=g4 (by omega)
    simp only [Option.some.injEq] at this
    subst this
    cases len with
    | zero => omega
    | succ n =>
     simp only [Sem.run_bind,hv,Result.andThen_ok,Builtin.zeroCells,hflat,hrun,Sem.run_pure]
 simp only [execOp,ho,resolve,hc,Sem.run_bind,Sem.run_pure,Result.andThen_ok,invoke,builtin,hargs,hclear]
theorem op_appZn (hI : Inv B C) (hE : RepE C g a) {c : Call} {x y : Operand} {sT xT e : TypeId} {kk : IntKind} {q : TI} {ax ay : AX} {zero : List AVal} {z : Dat} {n : Int} {site nv : Nat} (ho : o.op = .call c) (hc : c.callee = .builtin .append) (ha : c.args = #[x,y])
  (h0 : c.argTypes[0]? = some sT) (h1 : c.argTypes[1]? = some xT) (hs : P.underlying sT = some (.slice e)) (hxt : P.underlying xT = some (.int kk)) (hq : tI P e = some q) (hz : q.zero = some zero) (hd : zrc7 zero = some z) (hw : z.width = q.size ∧ 1 ≤ q.size)
  (hx : cX x = some ax) (hy : cX y = some ay) (hX : evX g ax = .nils) (hY : zmb7 (evX g ay) = some n) (hb : 1 ≤ n ∧ n * (q.bytes + 1) ≤ room) (hid : zhb7 C.ρ (nid site) = some nv) :
  Does P o a C.w (Owes B C (.rsl (nid site) nv q.size 0 n.toNat) [(nid site,.arr q.size nv false (List.replicate n.toNat z))]):=by
 obtain ⟨v,hv,hvs,hrep⟩:=mk_zero hq hz hd hw.1
 have hrx:=zia7 hE hx
 rw [hX] at hrx
 simp only [RepA] at hrx
 obtain ⟨k,hk⟩:=zza7 hY (zia7 hE hy)
 obtain ⟨i,d,i1,i2,i3,i4,_⟩:=tI_info hq
 obtain ⟨hb1,hb2⟩:=hb
 have hr : (room : Int) = 1099511627776:=rfl
 obtain ⟨m,rfl⟩ : ∃ m : Nat,n = m:=⟨n.toNat,by omega⟩
 simp only [Int.toNat_natCast]
 have hm1 : 1 ≤ m:=by omega
 have hle : (m : Int) ≤ m * (q.bytes + 1):=by
  have : m * 1 ≤ m * (q.bytes + 1):=Nat.mul_le_mul_left _ (by omega)
  have h2 : ((m * (q.bytes + 1) : Nat) : Int) = m * (q.bytes + 1):=by simp
  omega
 have hbt : (m : Int) * q.bytes ≤ m * (q.bytes + 1):=by
  have : m * q.bytes ≤ m * (q.bytes + 1):=Nat.mul_le_mul_left _ (by omega)
  have h2 : ((m * (q.bytes + 1) : Nat) : Int) = m * (q.bytes + 1):=by simp
  have h3 : ((m * q.bytes : Nat) : Int) = m * q.bytes:=by simp
  omega
 have wl : IntKind.i64.wrap (m : Int) = m:=IntWalk.i64_in _ ⟨by omega,by omega⟩
 have hargs : c.args.map a.eval = #[.slice none 0 0,.int k m]:=by rw [ha]; simp [hrx,hk]
 have hexec : ∀ v w',(Builtin.append_ c.argTypes o.type #[.slice none 0 0,.int k m]).run P C.w = .ok v w' → (execOp a.eval o).run P C.w = .ok (.value v) w':=by
  intro v w' h
  simp only [execOp,ho,resolve,hc,Sem.run_bind,Sem.run_pure,Result.andThen_ok,invoke,builtin,hargs,h]
 have hneg : ¬ ((m : Int) < 0):=by omega
 have hbig : ¬ ((m : Int) * i.bytes > 2 ^ 48):=by rw [← i4]; omega
 have hfit : ¬ (0 + m ≤ 0):=by omega
 have hmax : ¬ (((0 + m : Nat) : Int) > IntKind.i64.max ∧ (True ∨ i.bytes = 0)):=by
  intro ⟨h,_⟩
  have : IntKind.i64.max = 9223372036854775807:=by decide
  omega
 have hgrow : ¬ (Builtin.nextslicecap (0 + m) 0 * i.bytes > 2 ^ 48):=by
  have h2 : ((m * q.bytes : Nat) : Int) = m * q.bytes:=by simp
  have:=growslice_fits (need:=0 + m) (old:=0) (bytes:=i.bytes) (by omega) (by rw [← i4,Nat.zero_add]; omega)
  omega
 have hch : (choose (.appendCap (0 + m) 0 e)).run P C.w = .ok (grownCap C.w (0 + m) 0 e) C.w.drew:=by
  rw [run_choose]; rfl
 have hge:=grownCap_ge C.w (0 + m) 0 e
 simp only [Nat.zero_add] at hfit hmax hgrow hch hge
 have hms : ¬ (m * q.size = 0):=by
  intro h
  rcases Nat.mul_eq_zero.1 h with h | h <;> omega
 obtain ⟨I1,G1⟩:=hI.drew
 have hlen : (List.replicate m z).length = m:=by simp
 have e2 : ((List.replicate m v.cells.toList).flatten).length = m * q.size:=by
  rw [List.length_flatten]; simp [hvs]
 have hzl : (Builtin.zeroCells v.cells m).toList = (List.replicate m v.cells.toList).flatten:=zrf7 v.cells m
 have hnew:=arr_new I1 (id:=nid site) (nv:=nv) hid hw.2 (ds:=List.replicate m z) (cs:=#[] ++ Builtin.zeroCells v.cells m ++ Builtin.zeroCells v.cells (grownCap C.w m 0 e - m)) (grownCap C.w m 0 e) ⟨_,by
  rw [hlen,Array.toList_append,Array.toList_append,hzl]
  simp only [List.nil_append]
  rw [List.take_append_of_le_length (by rw [e2]; exact Nat.le_refl _),← e2,List.take_length,← hw.1]
  exact zoc7 (hrep _) _,by
  simp only [Array.size_append,size_zeroCells,hvs,List.size_toArray,List.length_nil,Nat.zero_add,← Nat.add_mul]
  congr 1; omega,rfl⟩ (by rw [hlen]; omega) e
 rw [hlen] at hnew
 obtain ⟨C',w1,w2,w3,w4,w5⟩:=hnew
 refine .inl ⟨.slice (some ⟨C.w.drew.heap.size,0,none⟩) m (grownCap C.w m 0 e),_,hexec _ _ ?_,C',w1,w2,w3,G1.trans w4,w5⟩
 unfold Builtin.append_
 simp only [h0,h1,List.getElem?_toArray,List.getElem?_cons_zero,List.getElem?_cons_succ,Sem.run_bind,run_underlying hs,Result.andThen_ok,run_sizeOf hq,run_underlying hxt,Sem.run_pure,if_true,asInt,asIntOf,wl,hneg,if_false,run_typeInfo i1,hbig,
  Int.toNat_natCast,hfit,hmax,hgrow,hch,run_askRoom,Builtin.firstCells,Bool.not_true,Bool.false_eq_true,hms,hv,newRow,run_newObj,Nat.zero_add]
 rfl
theorem op_mkr (hI : Inv B C) (hE : RepE C g a) {t e : TypeId} {l c : Operand} {q : TI} {al ac : AX} {zero : List AVal} {ln cn : Int} {site nv : Nat} (ho : o.op = .makeSlice t l c) (hl : cX l = some al) (hc : cX c = some ac)
  (ht : P.underlying t = some (.slice e)) (hq : tI P e = some q) (hz : q.zero = some zero) (hln : zmb7 (evX g al) = some ln) (hcn : zmb7 (evX g ac) = some cn)
  (hb : 0 ≤ ln ∧ ln ≤ cn ∧ q.bytes * cn ≤ room ∧ cn ≤ room) (hq1 : 1 ≤ q.size) (hzs : zero.length = q.size) (hid : zhb7 C.ρ (nid site) = some nv) :
  Does P o a C.w (Owes B C (.rsl (nid site) nv q.size 0 ln.toNat) [(nid site,.rarr q.size nv (List.replicate ln.toNat zero))]):=by
 obtain ⟨v,hv,hcs⟩:=tI_zero hq hz
 obtain ⟨z1,z2,z3⟩:=zof7 (C:=C) hcs
 have hvs : v.cells.toList.length = q.size:=by have:=z1.length; rw [this,hzs]
 obtain ⟨k,hk⟩:=zza7 hln (zia7 hE hl)
 obtain ⟨k',hk'⟩:=zza7 hcn (zia7 hE hc)
 obtain ⟨out,o1,o2,o3⟩:=zde7 (P:=P) ht hq hv (by simpa using hvs) (k:=k) (k':=k') hb C.w
 have hlen : (List.replicate ln.toNat zero).length = ln.toNat:=by simp
 have hrows : ∀ row ∈ List.replicate ln.toNat zero,row.length = q.size:=by intro row hr; rw [List.eq_of_mem_replicate hr]; exact hzs
 have hrep : ∀ n,RepL C (List.replicate n zero).flatten (List.replicate n v.cells.toList).flatten:=by
  intro n
  induction n with
  | zero => simp [RepL]
  | succ n ih =>
   rw [List.replicate_succ,List.replicate_succ,List.flatten_cons,List.flatten_cons]
   exact z1.append ih
 have:=rarr_new hI hid hq1 (es:=List.replicate ln.toNat zero) hrows (cs:=out) cn.toNat (by
  rw [List.all_eq_true]
  intro x hx
  obtain ⟨row,hr,hx⟩:=List.mem_flatten.1 hx
  rw [List.eq_of_mem_replicate hr] at hx
  exact List.all_eq_true.1 z2 x hx) (by
  have e1 : out.toList = (List.replicate ln.toNat v.cells.toList).flatten ++ (List.replicate (cn.toNat - ln.toNat) v.cells.toList).flatten:=by
   rw [o1,← List.flatten_append,List.replicate_append_replicate]
   congr 2; omega
  have e2 : ((List.replicate ln.toNat v.cells.toList).flatten).length = ln.toNat * q.size:=by
   rw [List.length_flatten]; simp at hvs; simp [hvs]
  rw [zyb7 hrows,hlen,e1,List.take_append_of_le_length (by rw [e2]; exact Nat.le_refl _)]
  rw [List.take_of_length_le (by rw [e2]; exact Nat.le_refl _)]
  exact hrep _) o2 (by rw [hlen]; omega) e
 rw [hlen] at this
 refine .inl ⟨_,_,?_,this⟩
 simp only [execOp,ho,hk,hk',Sem.run_bind,o3,Result.andThen_ok,Sem.run_pure]
end
end Go.Am

namespace Go.Am
variable [Glob]
section
variable {P : Program} {o : Oper} {a : Act} {B : Base} {C : Ctx} {g : Nat → AVal}
theorem underK {t : TypeId} (h : keyOk P t = true) : (∃ k,P.underlying t = some (.int k)) ∨ P.underlying t = some .bool ∨ P.underlying t = some .string ∨ (∃ fs,P.underlying t = some (.struct fs) ∧ ∀ f ∈ fs.toList,zxc7 P f.type = true) ∨ ∃ n el,P.underlying t = some (.array n el) ∧ zxc7 P el = true:=by
 unfold keyOk at h
 split at h
 ·rename_i k e; exact .inl ⟨k,e⟩
 ·rename_i e; exact .inr (.inl e)
 ·rename_i e; exact .inr (.inr (.inl e))
 ·rename_i fs e
  exact .inr (.inr (.inr (.inl ⟨fs,e,fun f hf => List.all_eq_true.1 h f hf⟩)))
 ·rename_i n el e
  exact .inr (.inr (.inr (.inr ⟨n,el,e,h⟩)))
 ·cases h
theorem val_mkV {t : TypeId} (hk : keyOk P t = true) {kd : Dat} {v : Value} (hag : kd.isAgg = aggK P t) (hv : zfc7 v = kd.isAgg) (hc : v.cells.toList = kd.cells.map valD) : v = mkV P t kd.cells:=by
 have scal : aggK P t = false → (∀ a,mkV P t a = (a.map valD).headD undef) → v = mkV P t kd.cells:=by
  intro ha hm
  rw [ha] at hag
  rw [hag] at hv
  rw [zob7 hv] at hc
  rw [hm,← hc]
  rfl
 rcases underK hk with ⟨k,e⟩ | e | e | ⟨fs,e,_⟩ | ⟨n,el,e,_⟩
 ·exact scal (by simp [aggK,e]) (fun a => by simp [mkV,e])
 ·exact scal (by simp [aggK,e]) (fun a => by simp [mkV,e])
 ·exact scal (by simp [aggK,e]) (fun a => by simp [mkV,e])
 ·have ha : aggK P t = true:=by simp [aggK,e]
  rw [ha] at hag
  rw [hag] at hv
  cases v <;> simp [zfc7] at hv
  rename_i cs
  simp only [Value.cells] at hc
  simp [mkV,e,← hc]
 ·have ha : aggK P t = true:=by simp [aggK,e]
  rw [ha] at hag
  rw [hag] at hv
  cases v <;> simp [zfc7] at hv
  rename_i cs
  simp only [Value.cells] at hc
  simp [mkV,e,← hc]
theorem zge7 {F : Froz} {t : TypeId} {sh : List Sh} (hk : keyOk P t = true) {x y : Dat} {v u : Value} {e : Bool} (hx : RepV F x v) (hy : RepV F y u) (ax : x.isAgg = aggK P t) (ay : y.isAgg = aggK P t) (he : zea7 sh x.cells y.cells = some e) :
  v = mkV P t x.cells ∧ u = mkV P t y.cells:=by
 obtain ⟨h1,h2⟩:=zie7 he hx.1.cellsAgg hy.1.cellsAgg
 exact ⟨val_mkV hk ax hx.2 h1,val_mkV hk ay hy.2 h2⟩
theorem run_equalK {t : TypeId} {sh : List Sh} (hs : shapeOf P 6 t = some sh) {x y : List Dat} {e : Bool} (he : zea7 sh x y = some e) (w : World) : (Op.equal t (mkV P t x) (mkV P t y)).run P w = .ok e w:=by
 exact shape_run 6 9994 t sh hs x y e w he
theorem zcc7 {t : TypeId} (hs : zxc7 P t = true) (em : Bool) (n : Nat) (v : Value) (w : World) : (Instr.checkKey em (n + 1) t v).run P w = .ok () w:=by
 unfold zxc7 at hs
 unfold Instr.checkKey
 split at hs <;> (try (cases hs; done)) <;> rename_i e <;> simp only [Sem.run_bind,run_underlying e,Result.andThen_ok] <;> cases v <;> rfl
theorem zff7 {t : TypeId} {m : Nat} {em : Bool} {n : Nat} : ∀ (fs : List Field) (o : Nat) (sh : List Sh),zgd7 P (shapeOf P m) o fs = some sh → (∀ f ∈ fs,zxc7 P f.type = true) → ∀ (a pa : List Dat) (e : Bool) (b : List Dat) (w : World),pa.length = o → zea7 sh a b = some e →
   (forIn fs PUnit.unit fun f _ => do
    if f.name ≠ "_" then Instr.checkKey em (n + 1) f.type (← part f.type ((pa ++ a).map valD).toArray f.offset)
    pure (ForInStep.yield PUnit.unit) : Sem PUnit).run P w = .ok PUnit.unit w
 | [],o,sh,h,hf,a,pa,e,b,w,hpa,he => by simp
 | f :: fs,o,sh,h,hf,a,pa,e,b,w,hpa,he => by
  simp only [zgd7] at h
  split at h
  ·rename_i l r hl hr
   split at h
   ·rename_i hc
    obtain ⟨c1,c2,c3,c4⟩:=hc
    simp only [Option.some.injEq] at h
    subst h
    obtain ⟨e1,e2,q1,q2,q3⟩:=zqc7 he
    obtain ⟨n1,n2⟩:=zxd7 q1
    have p1:=zwe7 (P:=P) (t:=f.type) (a:=pa ++ a) (pre:=pa) (mid:=a.take l.length) (post:=a.drop l.length) (by simp) (by rw [n1,c2]) c4 hl n1.symm w
    rw [hpa] at p1
    have p2:=zcc7 (hf f (by simp)) em n (mkV P f.type (a.take l.length)) w
    have:=zff7 (t:=t) (em:=em) (n:=n) fs _ r hr (fun f' hf' => hf f' (by simp [hf'])) (a.drop l.length) (pa ++ a.take l.length) e2 (b.drop l.length) w (by rw [List.length_append,n1,hpa,c2]) q2
    simp only [List.append_assoc,List.take_append_drop] at this
    simp only [List.forIn_cons,Sem.run_bind,c3,ne_eq,not_false_eq_true,if_true,c1,p1,p2,Result.andThen_ok,Sem.run_pure]
    exact this
   ·cases h
  ·cases h
theorem checkItems_run {el : TypeId} {m : Nat} {l : List Sh} (hl : shapeOf P m el = some l) (h1 : l.length = P.cellsOf el) (h2 : (P.info? el).isSome = true) (hsc : zxc7 P el = true) {em : Bool} {q : Nat} :
  ∀ (n k : Nat) (a pa : List Dat) (e : Bool) (b : List Dat) (w : World),pa.length = k * P.cellsOf el → zea7 (List.replicate n l).flatten a b = some e →
   (forIn (List.range' k n) PUnit.unit fun i _ => do
    Instr.checkKey em (q + 1) el (← part el ((pa ++ a).map valD).toArray (i * (← sizeOf el)))
    pure (ForInStep.yield PUnit.unit) : Sem PUnit).run P w = .ok PUnit.unit w
 | 0,k,a,pa,e,b,w,hpa,he => by simp
 | n + 1,k,a,pa,e,b,w,hpa,he => by
  rw [List.replicate_succ,List.flatten_cons] at he
  obtain ⟨e1,e2,q1,q2,q3⟩:=zqc7 he
  obtain ⟨n1,n2⟩:=zxd7 q1
  have p1:=zwe7 (P:=P) (t:=el) (a:=pa ++ a) (pre:=pa) (mid:=a.take l.length) (post:=a.drop l.length) (by simp) (by rw [n1,h1]) h2 hl n1.symm w
  rw [hpa] at p1
  have p2:=zcc7 hsc em q (mkV P el (a.take l.length)) w
  have p3:=run_cellsOf h2 w
  have:=checkItems_run hl h1 h2 hsc (em:=em) (q:=q) n (k + 1) (a.drop l.length) (pa ++ a.take l.length) e2 (b.drop l.length) w (by rw [List.length_append,n1,hpa,h1,Nat.add_mul,Nat.one_mul]) q2
  simp only [List.append_assoc,List.take_append_drop] at this
  simp only [List.range'_succ,List.forIn_cons,Sem.run_bind,p3,p1,p2,Result.andThen_ok,Sem.run_pure]
  exact this
theorem run_checkK {t : TypeId} {sh : List Sh} (hk : keyOk P t = true) (hs : shapeOf P 6 t = some sh) {x : List Dat} {e : Bool} (he : zea7 sh x x = some e) (em : Bool) (w : World) : (Instr.checkKey em 10000 t (mkV P t x)).run P w = .ok () w:=by
 rcases underK hk with ⟨k,e⟩ | e | e | ⟨fs,e,hf⟩ | ⟨n,el,e,hsc⟩
 ·exact zcc7 (by simp [zxc7,e]) em 9999 _ w
 ·exact zcc7 (by simp [zxc7,e]) em 9999 _ w
 ·exact zcc7 (by simp [zxc7,e]) em 9999 _ w
 ·have hsh:=hs
  unfold shapeOf at hsh
  rw [e] at hsh
  simp only at hsh
  split at hsh
  ·cases hsh
  ·show (Instr.checkKey em (9999 + 1) t (mkV P t x)).run P w = .ok () w
   unfold Instr.checkKey
   have hm : mkV P t x = .agg (x.map valD).toArray:=by simp [mkV,e]
   rw [hm]
   simp only [Sem.run_bind,run_underlying e,Result.andThen_ok]
   rw [← Array.forIn_toList]
   have:=zff7 (P:=P) (t:=t) (em:=em) (n:=9998) fs.toList 0 sh hsh hf x [] _ x w rfl he
   simp at this
   simp [this,Result.andThen]
 ·have hsh:=hs
  unfold shapeOf at hsh
  rw [e] at hsh
  simp only at hsh
  split at hsh
  ·cases hsh
  ·split at hsh
   ·rename_i l hl
    split at hsh
    ·rename_i hc
     simp only [Option.some.injEq] at hsh
     subst hsh
     show (Instr.checkKey em (9999 + 1) t (mkV P t x)).run P w = .ok () w
     unfold Instr.checkKey
     have hm : mkV P t x = .agg (x.map valD).toArray:=by simp [mkV,e]
     rw [hm]
     simp only [Sem.run_bind,run_underlying e,Result.andThen_ok]
     have:=checkItems_run (P:=P) (em:=em) (q:=9998) hl hc.1 hc.2 hsc n 0 x [] _ x w (by simp) he
     simp at this
     simp [Std.Legacy.Range.forIn_eq_forIn_range',Std.Legacy.Range.size,this,Result.andThen]
    ·cases hsh
   ·cases hsh
theorem sameNow_ok {F : Froz} {d : TypeDesc} {t : TypeId} {sh : List Sh} (hd : P.underlying t = some d) (hs : shapeOf P 6 t = some sh) {x y : List Dat} {e b : Bool} (he : zea7 sh x y = some e) (h : Instr.sameNow d (mkV P t x) (mkV P t y) = some b) : b = e:=by
 have heq : ∀ w,(Op.equal t (mkV P t x) (mkV P t y)).run P w = .ok e w:=fun w => run_equalK hs he w
 unfold shapeOf at hs
 rw [hd] at hs
 cases d <;> simp only [reduceCtorEq] at hs <;> (try (simp [Instr.sameNow] at h; done))
 case int k =>
  simp only [Option.some.injEq] at hs
  subst hs
  obtain ⟨x1,xs,y1,ys,e1,e2,rfl,rfl,h1,h2,rfl⟩:=zeb7 he
  obtain ⟨rfl,rfl,rfl⟩:=zib7 h2
  unfold zxa7 at h1
  split at h1 <;> (try (rename_i hsh; simp at hsh; done)) <;> (try (cases h1; done))
  rename_i k1 n k2 n' hsh
  split at h1
  ·rename_i hk
   simp only [Option.some.injEq] at h1
   subst h1
   obtain ⟨rfl,rfl⟩:=hk
   simp only [mkV,hd,List.map_cons,List.headD_cons,valD,Instr.sameNow,if_true,Option.some.injEq] at h
   subst h
   simp
   rfl
  ·cases h1
 case bool =>
  simp only [Option.some.injEq] at hs
  subst hs
  obtain ⟨x1,xs,y1,ys,e1,e2,rfl,rfl,h1,h2,rfl⟩:=zeb7 he
  obtain ⟨rfl,rfl,rfl⟩:=zib7 h2
  unfold zxa7 at h1
  split at h1 <;> (try (rename_i hsh; simp at hsh; done)) <;> (try (cases h1; done))
  simp only [Option.some.injEq] at h1
  subst h1
  simp only [mkV,hd,List.map_cons,List.headD_cons,valD,Instr.sameNow,Option.some.injEq] at h
  subst h
  simp
 case string =>
  simp only [Option.some.injEq] at hs
  subst hs
  obtain ⟨x1,xs,y1,ys,e1,e2,rfl,rfl,h1,h2,rfl⟩:=zeb7 he
  obtain ⟨rfl,rfl,rfl⟩:=zib7 h2
  unfold zxa7 at h1
  split at h1 <;> (try (rename_i hsh; simp at hsh; done)) <;> (try (cases h1; done))
  simp only [Option.some.injEq] at h1
  subst h1
  simp only [mkV,hd,List.map_cons,List.headD_cons,valD,Instr.sameNow,Option.some.injEq] at h
  subst h
  rw [Bool.eq_iff_iff,MapKept.bytes_beq]
  simp
theorem findNow_ok {C0 : Ctx} {d : TypeDesc} {t : TypeId} {sh : List Sh} (hd : P.underlying t = some d) (hk : keyOk P t = true) (hs : shapeOf P 6 t = some sh) {kd : Dat} (hag : kd.isAgg = aggK P t) {kv : Value} (hkv : RepV C0.F kd kv) :
  ∀ (es : List (Dat × AVal)) (ens : List MapEntry) (i : Nat) (r : Option (Nat × Value)) (res : Option Nat),EntsOK C0 es ens → findE (aggK P t) sh kd es = some res → Instr.findNow d kv ens i = some r →
   r = res.bind fun j => (ens[j]?).map fun e => (i + j,e.val)
 | [],ens,i,r,res,he,hf,hn => by
  simp only [EntsOK] at he
  subst he
  simp only [findE,Option.some.injEq] at hf
  simp only [Instr.findNow,Option.some.injEq] at hn
  subst hf; subst hn; rfl
 | e :: es,ens,i,r,res,he,hf,hn => by
  simp only [EntsOK] at he
  obtain ⟨en,ens',rfl,h1,h2,h3⟩:=he
  simp only [findE] at hf
  split at hf
  ·cases hf
  ·rename_i hae
   have hae : e.1.isAgg = aggK P t:=by simpa using hae
   simp only [Instr.findNow] at hn
   split at hf
   ·rename_i hq
    obtain ⟨v1,v2⟩:=zge7 hk hkv h1 hag hae hq
    simp only [Option.some.injEq] at hf
    subst hf
    split at hn
    ·rename_i hb; simp at hn; subst hn; simp
    ·rename_i hb
     rw [v1,v2] at hb
     have:=sameNow_ok (F:=C0.F) hd hs hq hb
     cases this
    ·cases hn
   ·rename_i hq
    obtain ⟨v1,v2⟩:=zge7 hk hkv h1 hag hae hq
    split at hn
    ·rename_i hb
     rw [v1,v2] at hb
     have:=sameNow_ok (F:=C0.F) hd hs hq hb
     cases this
    ·rename_i hb
     split at hf
     ·rename_i j hj
      simp only [Option.some.injEq] at hf
      subst hf
      have:=findNow_ok hd hk hs hag hkv es ens' (i + 1) r (some j) h3 hj hn
      rw [this]
      simp [Nat.add_assoc,Nat.add_comm 1]
     ·rename_i hj
      simp only [Option.some.injEq] at hf
      subst hf
      have:=findNow_ok hd hk hs hag hkv es ens' (i + 1) r none h3 hj hn
      rw [this]
      rfl
     ·cases hf
    ·cases hn
   ·cases hf
theorem zqe7 {C0 : Ctx} {t : TypeId} {sh : List Sh} (hk : keyOk P t = true) (hs : shapeOf P 6 t = some sh) {kd : Dat} (hag : kd.isAgg = aggK P t) {kv : Value} (hkv : RepV C0.F kd kv) (w : World) :
  ∀ (es : List (Dat × AVal)) (ens : List MapEntry) (i : Nat) (res : Option Nat),EntsOK C0 es ens → findE (aggK P t) sh kd es = some res →
   (Instr.findAsking t kv ens i).run P w = .ok (res.bind fun j => (ens[j]?).map fun e => (i + j,e.val)) w
 | [],ens,i,res,he,hf => by
  simp only [EntsOK] at he
  subst he
  simp only [findE,Option.some.injEq] at hf
  subst hf
  simp [Instr.findAsking]
 | e :: es,ens,i,res,he,hf => by
  simp only [EntsOK] at he
  obtain ⟨en,ens',rfl,h1,h2,h3⟩:=he
  simp only [findE] at hf
  split at hf
  ·cases hf
  ·rename_i hae
   have hae : e.1.isAgg = aggK P t:=by simpa using hae
   simp only [Instr.findAsking,Sem.run_bind]
   split at hf
   ·rename_i hq
    obtain ⟨v1,v2⟩:=zge7 hk hkv h1 hag hae hq
    simp only [Option.some.injEq] at hf
    subst hf
    have:=run_equalK (P:=P) hs hq w
    rw [← v1,← v2] at this
    simp [this]
   ·rename_i hq
    obtain ⟨v1,v2⟩:=zge7 hk hkv h1 hag hae hq
    have:=run_equalK (P:=P) hs hq w
    rw [← v1,← v2] at this
    simp only [this,Result.andThen_ok,Bool.false_eq_true,if_false]
    split at hf
    ·rename_i j hj
     simp only [Option.some.injEq] at hf
     subst hf
     rw [zqe7 hk hs hag hkv w es ens' (i + 1) (some j) h3 hj]
     simp [Nat.add_assoc,Nat.add_comm 1]
    ·rename_i hj
     simp only [Option.some.injEq] at hf
     subst hf
     rw [zqe7 hk hs hag hkv w es ens' (i + 1) none h3 hj]
     rfl
    ·cases hf
   ·cases hf
theorem run_find {C0 : Ctx} {t : TypeId} {sh : List Sh} (hk : keyOk P t = true) (hs : shapeOf P 6 t = some sh) {kd : Dat} (hag : kd.isAgg = aggK P t) {kv : Value} (hkv : RepV C0.F kd kv) (w : World)
  {es : List (Dat × AVal)} {ens : List MapEntry} {res : Option Nat} (he : EntsOK C0 es ens) (hf : findE (aggK P t) sh kd es = some res) :
  (Instr.findKey t kv ens).run P w = .ok (res.bind fun j => (ens[j]?).map fun e => (j,e.val)) w:=by
 obtain ⟨d,hd⟩:=shape_under hs
 unfold Instr.findKey
 simp only [Sem.run_bind,run_underlying hd,Result.andThen_ok]
 split
 ·rename_i r hr
  have:=findNow_ok hd hk hs hag hkv es ens 0 r res he hf hr
  rw [this]
  simp
 ·have:=zqe7 hk hs hag hkv w es ens 0 res he hf
  simpa using this
theorem EntsOK.length {C0 : Ctx} : ∀ {es : List (Dat × AVal)} {ens : List MapEntry},EntsOK C0 es ens → ens.length = es.length
 | [],ens,h => by simp only [EntsOK] at h; simp [h]
 | e :: r,ens,h => by
  simp only [EntsOK] at h
  obtain ⟨en,ens',rfl,_,_,h3⟩:=h
  simp [h3.length]
theorem EntsOK.get {C0 : Ctx} : ∀ {es : List (Dat × AVal)} {ens : List MapEntry},EntsOK C0 es ens → ∀ {i : Nat} {e : Dat × AVal},es[i]? = some e → ∃ en,ens[i]? = some en ∧ RepV C0.F e.1 en.key ∧ RepA C0 e.2 en.val
 | [],ens,h,i,e,hi => by simp at hi
 | x :: r,ens,h,i,e,hi => by
  simp only [EntsOK] at h
  obtain ⟨en,ens',rfl,h1,h2,h3⟩:=h
  cases i with
  | zero => simp at hi; subst hi; exact ⟨en,rfl,h1,h2⟩
  | succ i => simp at hi; simpa using h3.get hi
theorem zbf7 {C0 : Ctx} : ∀ {es : List (Dat × AVal)} {ens : List MapEntry},ens.length = es.length → (∀ (i : Nat) (e : Dat × AVal) (en : MapEntry),es[i]? = some e → ens[i]? = some en → RepV C0.F e.1 en.key ∧ RepA C0 e.2 en.val) → EntsOK C0 es ens
 | [],ens,hl,h => by simp only [EntsOK]; simpa using hl
 | x :: r,[],hl,h => by simp at hl
 | x :: r,en :: ens,hl,h => by
  simp only [EntsOK]
  obtain ⟨h1,h2⟩:=h 0 x en rfl rfl
  exact ⟨en,ens,rfl,h1,h2,zbf7 (by simpa using hl) fun i e en hi he => h (i + 1) e en (by simpa using hi) (by simpa using he)⟩
theorem keyE_rep {ag : Bool} {sh : List Sh} {v : AVal} {kd : Dat} {val : Value} (h : keyE ag sh v = some kd) (hr : RepA C v val) : RepV C.F kd val ∧ kd.isAgg = ag ∧ zea7 sh kd.cells kd.cells = some true:=by
 unfold keyE at h
 split at h
 ·rename_i kd' hk
  split at h
  ·rename_i hc
   simp only [Option.some.injEq] at h
   subst h
   refine ⟨?_,hc⟩
   split at hk
   ·rename_i d
    simp only [Option.some.injEq] at hk
    subst hk
    simpa only [RepA] using hr
   ·rename_i l
    cases e : aggOf (.agg l) with
    | none => simp [e] at hk
    | some ds =>
     simp [e] at hk
     subst hk
     obtain ⟨cs,rfl,h2⟩:=aggOf_rep hr e
     exact repV_agg h2
   ·cases hk
  ·cases h
 ·cases h
theorem mapT_spec {t kt et : TypeId} {sh : List Sh} {q : TI} (h : mapT P t = some (kt,sh,et,q)) : P.underlying t = some (.map kt et) ∧ shapeOf P 6 kt = some sh ∧ tI P et = some q ∧ keyOk P kt = true:=by
 unfold mapT at h
 split at h
 ·rename_i k e hu
  split at h
  ·rename_i sh' q' h1 h2
   split at h
   ·rename_i h3
    simp only [Option.some.injEq,Prod.mk.injEq] at h
    obtain ⟨rfl,rfl,rfl,rfl⟩:=h
    exact ⟨hu,h1,h2,h3⟩
   ·cases h
  ·cases h
 ·cases h
theorem mref_rep {id : Id} {es : List (Dat × AVal)} {val : Value} (hI : Inv B C) (hρ : C.ρ id = some (.blk (.map es))) (hr : RepA C (.bref false id) val) :
  val = .map (some (C.μ id).b) ∧ ∃ ens clock,C.w.heap[(C.μ id).b]? = some (.map ens clock) ∧ BornOK ens clock ∧ EntsOK C es ens.toList:=by
 simp only [RepA] at hr
 obtain ⟨b,h1,h2⟩:=hr
 have : b = (C.μ id).b:=by simpa [blkAt,hρ] using h1.symm
 subst this
 exact ⟨by simpa using h2,(hI.objs id _ hρ).2⟩
theorem zero_rep {et : TypeId} {q : TI} {zero : List AVal} {z : Dat} (hq : tI P et = some q) (hz : q.zero = some zero) (hd : zrc7 zero = some z) (hag : zeroAg P et = (zrc7 zero).map Dat.isAgg) (F : Froz) :
  ∃ v : Value,(∀ w,(zeroValue et).run P w = .ok v w) ∧ RepV F z v ∧ ∀ C : Ctx,C.F = F → RepA C (zeroV zero z) v:=by
 obtain ⟨i,d,h1,_,_,_,_,h6⟩:=tI_info hq
 rw [hz] at h6
 cases e : i.zero with
 | none => simp [e] at h6
 | some v =>
  rw [e] at h6
  have hv : zfc7 v = z.isAgg:=by
   rw [hd] at hag
   simp only [zeroAg,h1,Option.bind_some,e,Option.map_some,Option.some.injEq] at hag
   rw [← hag]
   cases v <;> rfl
  have hz2 : RepV F z v:=⟨zeroDat_rep hd h6.symm,hv⟩
  refine ⟨v,fun w => by simp [zeroValue,run_typeInfo h1,e],hz2,fun C hC => ?_⟩
  unfold zeroV
  split
  ·simp only [zrc7,Option.some.injEq] at hd
   subst hd
   simp only [Option.bind_some,cstCells,zob7 hv] at h6
   have h7 : zoa7 ([v].map cst) = some [.nils]:=h6.symm
   have:=(zof7 (C:=C) h7).1
   simp only [RepL] at this
   obtain ⟨c,cs',e1,e2,_⟩:=this
   cases e1
   exact e2
  ·simp only [RepA]
   rw [hC]; exact hz2
theorem op_lkp (hI : Inv B C) (hE : RepE C g a) {t kt et : TypeId} {m k : Operand} {ok : Bool} {am ak : AX} {sh : List Sh} {q : TI} {zero : List AVal} {v : AVal} (ho : o.op = .lookup t m k ok) (hm : cX m = some am) (hk : cX k = some ak) (hT : mapT P t = some (kt,sh,et,q))
  (hz : q.zero = some zero) (hag : zeroAg P et = (zrc7 zero).map Dat.isAgg) (h : lkpE C.ρ (aggK P kt) sh zero ok (evX g am) (evX g ak) = some v) : Does P o a C.w (Owes B C v []):=by
 obtain ⟨t1,t2,t3,t4⟩:=mapT_spec hT
 have hrm:=zia7 hE hm
 have hrk:=zia7 hE hk
 unfold lkpE at h
 split at h
 ·rename_i id kd z e1 e2 e3
  rw [e1] at hrm
  obtain ⟨k1,k2,k3⟩:=keyE_rep e2 hrk
  split at h
  ·rename_i es hρ
   obtain ⟨m1,ens,clock,m2,mb,m3⟩:=mref_rep hI hρ hrm
   obtain ⟨zv,z1,z2,z3⟩:=zero_rep t3 hz e3 hag C.F
   have hck:=run_checkK (P:=P) t4 t2 k3 ens.isEmpty C.w
   rw [← (zge7 t4 k1 k1 k2 k2 k3).1] at hck
   have hrun : ∀ res,findE (aggK P kt) sh kd es = some res → (Instr.lookup t (a.eval m) (a.eval k) ok).run P C.w =
     .ok (let p : Value × Bool:=match res.bind fun j => (ens.toList[j]?).map fun e => (j,e.val) with | some (_,v) => (v,true) | none => (zv,false); if ok then .tuple #[p.1,.bool p.2] else p.1) C.w:=by
    intro res hres
    have hf:=run_find (P:=P) t4 t2 k2 k1 C.w m3 hres
    rw [m1]
    unfold Instr.lookup
    simp only [Sem.run_bind,run_underlying t1,Result.andThen_ok,MapKept.run_getObj_map m2,Sem.run_pure,hck,hf]
    cases hx : (res.bind fun j => (ens.toList[j]?).map fun e => (j,e.val)) with
    | none => simp [z1,Result.andThen]
    | some p => simp [Result.andThen]
   split at h
   ·rename_i i hi
    split at h
    ·rename_i e he
     simp only [Option.some.injEq] at h
     subst h
     obtain ⟨en,n1,n2,n3⟩:=m3.get he
     refine zka7 hI (val:=if ok then .tuple #[en.val,.bool true] else en.val) ?_ ?_
     ·have:=hrun _ hi
      simp only [Option.bind_some,n1,Option.map_some] at this
      simp only [execOp,ho,Sem.run_bind,this,Result.andThen_ok,Sem.run_pure]
     ·cases ok
      ·simpa using n3
      ·simp only [if_true,RepA]
       refine ⟨_,rfl,?_⟩
       simp only [RepL,RepA]
       exact ⟨_,_,rfl,n3,_,_,rfl,by simp [RepV,RepD,Value.cells,zfc7],rfl⟩
    ·cases h
   ·rename_i hi
    simp only [Option.some.injEq] at h
    subst h
    refine zka7 hI (val:=if ok then .tuple #[zv,.bool false] else zv) ?_ ?_
    ·have:=hrun _ hi
     simp only [Option.bind_none] at this
     simp only [execOp,ho,Sem.run_bind,this,Result.andThen_ok,Sem.run_pure]
    ·have z3:=z3 C rfl
     cases ok
     ·simpa using z3
     ·simp only [if_true,RepA]
      refine ⟨_,rfl,?_⟩
      simp only [RepL,RepA]
      exact ⟨_,_,rfl,z3,_,_,rfl,by simp [RepV,RepD,Value.cells,zfc7],rfl⟩
   ·cases h
  ·cases h
 ·cases h
theorem op_lenM (hI : Inv B C) (hE : RepE C g a) {c : Call} {x : Operand} {ax : AX} {v : AVal} {t kt et : TypeId} (ho : o.op = .call c) (hc : c.callee = .builtin .len) (ha : c.args = #[x]) (ht : c.argTypes[0]? = some t)
  (hu : P.underlying t = some (.map kt et)) (hx : cX x = some ax) (h : lenME C.ρ (evX g ax) = some v) : Does P o a C.w (Owes B C v []):=by
 have hr:=zia7 hE hx
 unfold lenME at h
 split at h
 ·rename_i id e1
  rw [e1] at hr
  split at h
  ·rename_i es hρ
   simp only [Option.some.injEq] at h
   subst h
   obtain ⟨m1,ens,clock,m2,mb,m3⟩:=mref_rep hI hρ hr
   refine zka7 hI (val:=goInt ens.size) ?_ ?_
   ·have hrun : (Builtin.len_ c.argTypes o.type #[a.eval x]).run P C.w = .ok (goInt ens.size) C.w:=by
     unfold Builtin.len_
     simp [ht,m1,run_underlying hu,MapKept.run_getObj_map m2]
    simp [execOp,ho,resolve,hc,ha,invoke,builtin,hrun]
   ·have:=m3.length
    simp only [RepA]
    have e : ens.size = es.length:=by rw [← Array.length_toList,this]
    rw [e]
    simp [RepV,RepD,Value.cells,zfc7,goInt]
  ·cases h
 ·cases h
theorem putObj_kept {w : World} {b : Nat} {x y : Go.Obj} (h : w.heap[b]? = some x) (hx : nc w b) (hy : ∀ c t fr,y ≠ .cells c t fr) (T : Cells) :
  KeptB w { w with heap:=w.heap.setIfInBounds b y } T (fun i => i = b):=by
 have hlt : b < w.heap.size:=(Array.getElem?_eq_some_iff.1 h).1
 refine ⟨rfl,rfl,fun i hi hne => .inr ?_,fun i hi e => ?_,fun a _ => ?_,by simp⟩
 ·simp only
  rw [Array.getElem?_setIfInBounds_ne (Ne.symm hne)]
 ·subst e
  refine ⟨hx,fun c t fr e => ?_⟩
  simp only [Array.getElem?_setIfInBounds_self,hlt,if_true,Option.some.injEq] at e
  exact hy _ _ _ e
 ·unfold World.frozen?
  by_cases e : a.block = b
  ·simp only [e,Array.getElem?_setIfInBounds_self,hlt,if_true]
   have h2 : ∀ z : Go.Obj,(∀ c t fr,z ≠ .cells c t fr) → (match some z with | some (.cells _ _ (lo,hi)) => decide (lo ≤ a.off) && decide (a.off < hi) | _ => false) = false:=by
    intro z hz
    cases z <;> simp_all
   rw [h]
   exact (h2 y hy).trans (h2 x (fun c t fr e => hx c t fr (by rw [h,e]))).symm
  ·rw [Array.getElem?_setIfInBounds_ne (fun x => e x.symm)]
theorem Inv.turn (hI : Inv B C) {id : Id} {x : Blk} (h : C.ρ id = some (.blk x)) (y : Go.Obj) (hy : ∀ c t fr,y ≠ .cells c t fr) (x' : Blk)
  (hok : ∀ C' : Ctx,C'.w = { C.w with heap:=C.w.heap.setIfInBounds (C.μ id).b y } → C'.F = C.F → Grow C C' → BlkOK C' (C.μ id).b x') :
  let C' : Ctx:={ C with w:={ C.w with heap:=C.w.heap.setIfInBounds (C.μ id).b y },ρ:=updL C.ρ [(id,.blk x')] }
  Inv B C' ∧ Grow C C':=by
 intro C'
 obtain ⟨h0,h1⟩:=hI.objs id _ h
 obtain ⟨hlt,hnc⟩:=h1.nc
 obtain ⟨ob,hob⟩ : ∃ ob,C.w.heap[(C.μ id).b]? = some ob:=⟨_,Array.getElem?_eq_getElem hlt⟩
 have hg : Grow C C':=by
  refine ⟨fun _ _ _ h => h,fun i L _ hb => ?_,fun i A _ ha => ?_,fun i b _ hb => ?_⟩
  ·by_cases e : id = i
   ·subst e; simp [boxAt,h] at hb
   ·simpa [boxAt,C',updL,e] using hb
  ·by_cases e : id = i
   ·subst e; simp [arrAt,h] at ha
   ·exact ⟨A,by simpa [arrAt,C',updL,e] using ha,Nat.le_refl _,fun _ => ⟨rfl,rfl,Nat.le_refl _⟩⟩
  ·by_cases e : id = i
   ·subst e; simpa [blkAt,h,C',updL] using hb
   ·simpa [blkAt,C',updL,e] using hb
 refine ⟨?_,hg⟩
 refine hI.stepB (C':=C') id (fun _ _ => False) (fun i => i = (C.μ id).b) (fun _ _ h => h.elim) (putObj_kept hob hnc hy _) (fun b hb => ⟨x,h,hb⟩) (fun b o v hv => .inl hv) (fun b o v hv e => by simp only [C'] at hv; rw [e] at hv; cases hv) ?_ hg ?_ ?_ ?_
 ·intro i hi
  refine ⟨?_,rfl⟩
  simp only [C',updL]
  rw [if_neg (fun e => hi e.symm)]
 ·intro o' ho'
  have : o' = .blk x':=by simpa [C',updL] using ho'.symm
  subst this
  exact ⟨h0,hok C' rfl rfl hg⟩
 ·intro o' ho' hw
  have : o' = .blk x':=by simpa [C',updL] using ho'.symm
  subst this
  simp [Obj.own] at hw
 ·intro x2 _
  exact .inr ⟨x,h,rfl⟩
theorem Inv.newBlk (hI : Inv B C) {id : Id} (h : C.ρ id = none) (y : Go.Obj) (hy : ∀ c t fr,y ≠ .cells c t fr) (x : Blk)
  (hok : ∀ C' : Ctx,C'.w = C.w.alloc y → C'.F = C.F → Grow C C' → BlkOK C' C.w.heap.size x) :
  let C' : Ctx:={ w:=C.w.alloc y,F:=C.F,μ:=fun i => if i = id then ⟨C.w.heap.size,0,0⟩ else C.μ i,ρ:=fun i => if i = id then some (.blk x) else C.ρ i }
  Inv B C' ∧ Grow C C' ∧ C'.ρ = updL C.ρ [(id,.blk x)] :=
 hI.allocO (C.w.alloc y) (Kept.allocN _ _ _ hy) id (.blk x) ⟨C.w.heap.size,0,0⟩ ⟨by simp [h],by simp [h],fun A hA => by simp [arrAt,h] at hA⟩ (.inr rfl) (fun _ _ => Nat.le_refl _)
  (fun C' e1 e2 hg => ⟨rfl,hok C' e1 e2 hg⟩)
theorem alloc_new (w : World) (o : Go.Obj) : (w.alloc o).heap[w.heap.size]? = some o:=by
 show (w.heap.push o)[w.heap.size]? = some o
 simp
theorem op_mkMap (hI : Inv B C) {t : TypeId} {site : Nat} (ho : o.op = .makeMap t none) (hid : C.ρ (nid site) = none) : Does P o a C.w (Owes B C (.bref false (nid site)) [(nid site,.blk (.map []))]):=by
 obtain ⟨h1,h2,h3⟩:=hI.newBlk hid (.map #[] 0) (by simp) (.map []) (fun C' e1 e2 hg => ⟨#[],0,by rw [e1]; exact alloc_new _ _,bornOK_nil,by simp [EntsOK]⟩)
 refine .inl ⟨.map (some C.w.heap.size),C.w.alloc (.map #[] 0),?_,_,rfl,h3,h1,h2,?_⟩
 ·have hrun : (Instr.makeMap t none).run P C.w = .ok (.map (some C.w.heap.size)) (C.w.alloc (.map #[] 0)):=rfl
  simp [execOp,ho,hrun,Result.andThen]
 ·simp only [RepA]
  exact ⟨C.w.heap.size,by simp [blkAt],by simp⟩
theorem sameBits_dat {F : Froz} {sh : List Sh} : ∀ {x : List Dat} {e : Bool} {v u : List Value},zea7 sh x x = some e → v = x.map valD → ∀ n,(v.zip v).all (fun (p : Value × Value) => Instr.sameBits n p.1 p.2) = true:=by
 induction sh with
 | nil => intro x e v u h hv n; obtain ⟨rfl,_,_⟩:=zib7 h; subst hv; rfl
 | cons s r ih =>
  intro x e v u h hv n
  obtain ⟨a,xs,b,ys,e1,e2,h0,h1,h2,h3,rfl⟩:=zeb7 h
  subst h0
  simp only [List.cons.injEq] at h1
  obtain ⟨rfl,rfl⟩:=h1
  subst hv
  simp only [List.map_cons,List.zip_cons_cons,List.all_cons,Bool.and_eq_true]
  refine ⟨?_,ih (u:=u) h3 rfl n⟩
  unfold zxa7 at h2
  split at h2 <;> (try (cases h2; done)) <;> cases n <;> simp [valD,Instr.sameBits,MapKept.bytes_beq]
theorem zlf7 : ∀ {sh : List Sh} {x y : List Dat},zea7 sh x y = some true → x = y
 | [],x,y,h => by obtain ⟨rfl,rfl,_⟩:=zib7 h; rfl
 | s :: r,x,y,h => by
  obtain ⟨a,xs,b,ys,e1,e2,rfl,rfl,h2,h3,h4⟩:=zeb7 h
  have h4 : e1 = true ∧ e2 = true:=by simpa using h4.symm
  obtain ⟨rfl,rfl⟩:=h4
  rw [zlf7 h3]
  congr 1
  unfold zxa7 at h2
  split at h2
  ·split at h2
   ·rename_i hk
    simp at h2
    rw [hk.1,hk.2,h2]
   ·cases h2
  ·simp at h2; rw [h2]
  ·simp at h2; rw [h2]
  ·cases h2
theorem findE_some {ag : Bool} {sh : List Sh} {kd : Dat} : ∀ {es : List (Dat × AVal)} {i : Nat},findE ag sh kd es = some (some i) → ∃ e,es[i]? = some e ∧ e.1.isAgg = ag ∧ zea7 sh kd.cells e.1.cells = some true
 | [],i,h => by simp [findE] at h
 | e :: r,i,h => by
  simp only [findE] at h
  split at h
  ·cases h
  ·rename_i ha
   have ha : e.1.isAgg = ag:=by simpa using ha
   split at h
   ·rename_i hq
    simp at h
    subst h
    exact ⟨e,rfl,ha,hq⟩
   ·split at h
    ·rename_i j hj
     simp at h
     subst h
     obtain ⟨e',h1,h2⟩:=findE_some hj
     exact ⟨e',by simpa using h1,h2⟩
    ·simp at h
    ·cases h
   ·cases h
theorem run_keyStays {t : TypeId} {sh : List Sh} (hk : keyOk P t = true) {F : Froz} {x : Dat} {v : Value} (hv : RepV F x v) (ax : x.isAgg = aggK P t) (he : zea7 sh x.cells x.cells = some true) (w : World) : (Instr.keyThatStays v v).run P w = .ok v w:=by
 have hb : Instr.sameBits 10000 v v = true:=by
  obtain ⟨h1,_⟩:=zie7 he hv.1.cellsAgg hv.1.cellsAgg
  cases hag : zfc7 v with
  | true =>
   obtain ⟨cs,rfl⟩ : ∃ cs,v = .agg cs:=by cases v <;> simp [zfc7] at hag; exact ⟨_,rfl⟩
   simp only [Value.cells] at h1
   show Instr.sameBits (9999 + 1) (.agg cs) (.agg cs) = true
   simp only [Instr.sameBits,beq_self_eq_true,Bool.true_and]
   exact sameBits_dat (F:=F) (u:=[]) he h1 9999
  | false =>
   rw [zob7 hag] at h1
   have:=sameBits_dat (F:=F) (u:=[]) he h1 10000
   simpa using this
 simp [Instr.keyThatStays,hb]
def putM (ag : Bool) (sh : List Sh) (kd : Dat) (Y : AVal) (es : List (Dat × AVal)) : Option (List (Dat × AVal)) :=
 match findE ag sh kd es with
 | some (some i) => some (es.set i (kd,Y))
 | some none => some (es ++ [(kd,Y)])
 | none => none
theorem mup_put (hI : Inv B C) {t kt et : TypeId} {m k x : Operand} {sh : List Sh} {q : TI} (ho : o.op = .mapUpdate t m k x) (hT : mapT P t = some (kt,sh,et,q))
  {id : Id} {kd : Dat} {Y : AVal} {es es' : List (Dat × AVal)} (hrm : RepA C (.bref false id) (a.eval m)) (k1 : RepV C.F kd (a.eval k)) (k2 : kd.isAgg = aggK P kt) (k3 : zea7 sh kd.cells kd.cells = some true)
  (hρ : C.ρ id = some (.blk (.map es))) (hY : RepA C Y (a.eval x)) (h : putM (aggK P kt) sh kd Y es = some es') : Does P o a C.w (Owes B C (.tup []) [(id,.blk (.map es'))]):=by
 obtain ⟨t1,t2,t3,t4⟩:=mapT_spec hT
 obtain ⟨m1,ens,clock,m2,mb,m3⟩:=mref_rep hI hρ hrm
 have hck:=run_checkK (P:=P) t4 t2 k3 false C.w
 rw [← (zge7 t4 k1 k1 k2 k2 k3).1] at hck
 have fin : ∀ (ens' : Array MapEntry) (clock' : Nat) (es' : List (Dat × AVal)),BornOK ens' clock' → EntsOK C es' ens'.toList → (Instr.mapUpdate t (a.eval m) (a.eval k) (a.eval x)).run P C.w = .ok () { C.w with heap:=C.w.heap.setIfInBounds (C.μ id).b (.map ens' clock') } →
   Does P o a C.w (Owes B C (.tup []) [(id,.blk (.map es'))]):=by
  intro ens' clock' es' hb h1 h2
  have hlt : (C.μ id).b < C.w.heap.size:=(Array.getElem?_eq_some_iff.1 m2).1
  have ht:=hI.turn hρ (.map ens' clock') (by simp) (.map es') (fun C' e1 e2 hg => ⟨ens',clock',by rw [e1]; simp [hlt],hb,h1.mono hg⟩)
  refine .inr (.inl ⟨{ C.w with heap:=C.w.heap.setIfInBounds (C.μ id).b (.map ens' clock') },?_,_,rfl,rfl,ht.1,ht.2,?_⟩)
  ·simp [execOp,ho,h2,Result.andThen]
  ·simp [RepA,undef,RepL]
 unfold putM at h
 split at h
 ·rename_i i hi
  simp only [Option.some.injEq] at h
  subst h
  obtain ⟨e,he,hae,heq⟩:=findE_some hi
  obtain ⟨en,n1,n2,n3⟩:=m3.get he
  have hsame : en.key = a.eval k:=by
   have hcc:=zlf7 heq
   have hkk:=zge7 t4 k1 n2 k2 hae heq
   rw [hkk.2,← hcc,← hkk.1]
  have hf:=run_find (P:=P) t4 t2 k2 k1 C.w m3 hi
  simp only [Option.bind_some,n1,Option.map_some] at hf
  have hst:=run_keyStays (P:=P) t4 k1 k2 k3 C.w
  have n1' : ens[i]? = some en:=by simpa using n1
  have hilt : i < ens.size:=(Array.getElem?_eq_some_iff.1 n1').1
  refine fin (ens.modify i fun e => { e with key:=a.eval k,val:=a.eval x }) clock (es.set i (kd,Y)) (mb.modify i _ fun _ => rfl) ?_ ?_
  ·refine zbf7 (by simp [m3.length]) fun j e' en' hj hen => ?_
   rw [List.getElem?_set] at hj
   simp only [Array.toList_modify,List.getElem?_modify] at hen
   by_cases hij : i = j
   ·subst hij
    rw [if_pos rfl] at hj
    have hlt : i < es.length:=(List.getElem?_eq_some_iff.1 he).1
    rw [if_pos hlt] at hj
    simp only [Option.some.injEq] at hj
    subst hj
    simp [n1] at hen
    subst hen
    exact ⟨k1,hY⟩
   ·rw [if_neg hij] at hj
    simp [hij] at hen
    obtain ⟨en2,q1,q2,q3⟩:=m3.get hj
    have hen' : ens.toList[j]? = some en':=by simpa using hen
    rw [hen'] at q1
    cases q1
    exact ⟨q2,q3⟩
  ·rw [m1]
   unfold Instr.mapUpdate
   simp only [Sem.run_bind,run_underlying t1,Result.andThen_ok,MapKept.run_getObj_map m2,hck,hf,n1',Option.map_some,Option.getD_some,hsame,hst,MapKept.run_setObj_map _ m2]
 ·rename_i hi
  simp only [Option.some.injEq] at h
  subst h
  have hf:=run_find (P:=P) t4 t2 k2 k1 C.w m3 hi
  simp only [Option.bind_none] at hf
  refine fin (ens.push { key:=a.eval k,val:=a.eval x,born:=clock }) (clock + 1) (es ++ [(kd,Y)]) (mb.push _ rfl) ?_ ?_
  ·refine zbf7 (by simp [m3.length]) fun j e' en' hj hen => ?_
   simp only [Array.toList_push] at hen
   have hl:=m3.length
   by_cases hjl : j < es.length
   ·rw [List.getElem?_append_left hjl] at hj
    rw [List.getElem?_append_left (by omega)] at hen
    obtain ⟨en2,q1,q2,q3⟩:=m3.get hj
    rw [hen] at q1
    cases q1
    exact ⟨q2,q3⟩
   ·rw [List.getElem?_append_right (by omega)] at hj
    rw [List.getElem?_append_right (by omega),hl] at hen
    cases hjj : j - es.length with
    | zero =>
     rw [hjj] at hj hen
     simp at hj hen
     subst hj; subst hen
     exact ⟨k1,hY⟩
    | succ n => rw [hjj] at hj; simp at hj
  ·rw [m1]
   unfold Instr.mapUpdate
   simp only [Sem.run_bind,run_underlying t1,Result.andThen_ok,MapKept.run_getObj_map m2,hck,hf,MapKept.run_setObj_map _ m2]
 ·cases h
theorem op_mup (hI : Inv B C) (hE : RepE C g a) {t kt et : TypeId} {m k x : Operand} {am ak av : AX} {sh : List Sh} {q : TI} {upd : List (Id × Obj)} (ho : o.op = .mapUpdate t m k x) (hm : cX m = some am) (hk : cX k = some ak) (hx : cX x = some av) (hT : mapT P t = some (kt,sh,et,q))
  (h : mupE C.ρ (aggK P kt) sh (evX g am) (evX g ak) (evX g av) = some upd) : Does P o a C.w (Owes B C (.tup []) upd):=by
 obtain ⟨t1,t2,t3,t4⟩:=mapT_spec hT
 have hrm:=zia7 hE hm
 have hrk:=zia7 hE hk
 have hrx:=zia7 hE hx
 unfold mupE at h
 split at h
 ·rename_i id kd d fs e1 e2 e3
  rw [e1] at hrm
  obtain ⟨k1,k2,k3⟩:=keyE_rep e2 hrk
  split at h
  ·rename_i es hρ
   obtain ⟨m1,ens,clock,m2,mb,m3⟩:=mref_rep hI hρ hrm
   obtain ⟨C1,f1,f2,f3,f4,f5,f6⟩:=hI.freeze fs
   have hd1:=dec_rep f5.F f6 e3 hrx
   have hno : id ∉ (frz C.ρ fs).map (·.1):=by
    intro hmem
    have : ∀ (l : List Id),id ∈ (frz C.ρ l).map (·.1) → ∃ sz ver fz es',C.ρ id = some (.arr sz ver fz es'):=by
     intro l
     induction l with
     | nil => intro h; simp [frz] at h
     | cons i r ih =>
      intro h
      simp only [frz] at h
      split at h
      ·rename_i sz ver fz es' hi
       simp only [List.map_cons,List.mem_cons] at h
       rcases h with h | h
       ·subst h; exact ⟨_,_,_,_,hi⟩
       ·exact ih h
      ·exact ih h
    obtain ⟨sz,ver,fz,es',he⟩:=this fs hmem
    rw [hρ] at he
    cases he
   have hρ1 : C1.ρ id = some (.blk (.map es)):=by
    rw [f3]
    have : ∀ (l : List (Id × Obj)) (ρ : Look),id ∉ l.map (·.1) → updL ρ l id = ρ id:=by
     intro l
     induction l with
     | nil => intro ρ _; rfl
     | cons p r ih =>
      intro ρ hn
      simp only [List.map_cons,List.mem_cons,not_or] at hn
      simp only [updL]
      rw [ih _ hn.2,if_neg (fun e => hn.1 e.symm)]
    rw [this _ _ hno,hρ]
   have hck:=run_checkK (P:=P) t4 t2 k3 false C.w
   rw [← (zge7 t4 k1 k1 k2 k2 k3).1] at hck
   have fin : ∀ (ens' : Array MapEntry) (clock' : Nat) (es' : List (Dat × AVal)),BornOK ens' clock' → EntsOK C1 es' ens'.toList → (Instr.mapUpdate t (a.eval m) (a.eval k) (a.eval x)).run P C.w = .ok () { C.w with heap:=C.w.heap.setIfInBounds (C.μ id).b (.map ens' clock') } →
     Does P o a C.w (Owes B C (.tup []) (frz C.ρ fs ++ [(id,.blk (.map es'))])):=by
    intro ens' clock' es' hb h1 h2
    have hlt : (C.μ id).b < C.w.heap.size:=(Array.getElem?_eq_some_iff.1 m2).1
    have ht:=f4.turn hρ1 (.map ens' clock') (by simp) (.map es') (fun C' e1 e2 hg => ⟨ens',clock',by rw [e1,f2,f1]; simp [hlt],hb,h1.mono hg⟩)
    refine .inr (.inl ⟨{ C.w with heap:=C.w.heap.setIfInBounds (C.μ id).b (.map ens' clock') },?_,_,?_,?_,ht.1,f5.trans ht.2,?_⟩)
    ·simp [execOp,ho,h2,Result.andThen]
    ·simp only [f1,f2]
    ·rw [zte7,← f3]
    ·simp [RepA,undef,RepL]
   split at h
   ·rename_i i hi
    simp only [Option.some.injEq] at h
    subst h
    obtain ⟨e,he,hae,heq⟩:=findE_some hi
    obtain ⟨en,n1,n2,n3⟩:=m3.get he
    have hsame : en.key = a.eval k:=by
     have hcc:=zlf7 heq
     have hkk:=zge7 t4 k1 n2 k2 hae heq
     rw [hkk.2,← hcc,← hkk.1]
    have hf:=run_find (P:=P) t4 t2 k2 k1 C.w m3 hi
    simp only [Option.bind_some,n1,Option.map_some] at hf
    have hst:=run_keyStays (P:=P) t4 k1 k2 k3 C.w
    have n1' : ens[i]? = some en:=by simpa using n1
    have hilt : i < ens.size:=(Array.getElem?_eq_some_iff.1 n1').1
    refine fin (ens.modify i fun e => { e with key:=a.eval k,val:=a.eval x }) clock (es.set i (kd,.dat d)) (mb.modify i _ fun _ => rfl) ?_ ?_
    ·refine zbf7 (by simp [m3.length]) fun j e' en' hj hen => ?_
     rw [List.getElem?_set] at hj
     simp only [Array.toList_modify,List.getElem?_modify] at hen
     by_cases hij : i = j
     ·subst hij
      rw [if_pos rfl] at hj
      have hlt : i < es.length:=(List.getElem?_eq_some_iff.1 he).1
      rw [if_pos hlt] at hj
      simp only [Option.some.injEq] at hj
      subst hj
      simp [n1] at hen
      subst hen
      exact ⟨k1.mono f5.F,by simpa only [RepA] using hd1⟩
     ·rw [if_neg hij] at hj
      simp [hij] at hen
      obtain ⟨en2,q1,q2,q3⟩:=m3.get hj
      have hen' : ens.toList[j]? = some en':=by simpa using hen
      rw [hen'] at q1
      cases q1
      exact ⟨q2.mono f5.F,q3.grow f5⟩
    ·rw [m1]
     unfold Instr.mapUpdate
     simp only [Sem.run_bind,run_underlying t1,Result.andThen_ok,MapKept.run_getObj_map m2,hck,hf,n1',Option.map_some,Option.getD_some,hsame,hst,MapKept.run_setObj_map _ m2]
   ·rename_i hi
    simp only [Option.some.injEq] at h
    subst h
    have hf:=run_find (P:=P) t4 t2 k2 k1 C.w m3 hi
    simp only [Option.bind_none] at hf
    refine fin (ens.push { key:=a.eval k,val:=a.eval x,born:=clock }) (clock + 1) (es ++ [(kd,.dat d)]) (mb.push _ rfl) ?_ ?_
    ·refine zbf7 (by simp [m3.length]) fun j e' en' hj hen => ?_
     simp only [Array.toList_push] at hen
     have hl:=m3.length
     by_cases hjl : j < es.length
     ·rw [List.getElem?_append_left hjl] at hj
      rw [List.getElem?_append_left (by omega)] at hen
      obtain ⟨en2,q1,q2,q3⟩:=m3.get hj
      rw [hen] at q1
      cases q1
      exact ⟨q2.mono f5.F,q3.grow f5⟩
     ·rw [List.getElem?_append_right (by omega)] at hj
      rw [List.getElem?_append_right (by omega),hl] at hen
      cases hjj : j - es.length with
      | zero =>
       rw [hjj] at hj hen
       simp at hj hen
       subst hj; subst hen
       exact ⟨k1.mono f5.F,by simpa only [RepA] using hd1⟩
      | succ n => rw [hjj] at hj; simp at hj
    ·rw [m1]
     unfold Instr.mapUpdate
     simp only [Sem.run_bind,run_underlying t1,Result.andThen_ok,MapKept.run_getObj_map m2,hck,hf,MapKept.run_setObj_map _ m2]
   ·cases h
  ·cases h
 ·cases h
end
end Go.Am

namespace Go.Am
variable [Glob]
section
variable {P : Program} {o : Oper} {a : Act} {B : Base} {C : Ctx} {g : Nat → AVal} {site : Nat} {m : Mk} {k : AK} {v : AVal} {upd : List (Id × Obj)}
theorem zga7 {α β : Type} {x : Option α} {f : α → β} {y : β} (h : x.map f = some y) : ∃ z,x = some z ∧ f z = y:=by
 cases x with
 | none => cases h
 | some z => exact ⟨z,rfl,by simpa using h⟩
theorem ztb7 {x : Option AVal} (h : x.map (·,([] : List (Id × Obj))) = some (v,upd)) : x = some v ∧ upd = []:=by
 obtain ⟨z,hz,he⟩:=zga7 h
 simp only [Prod.mk.injEq] at he
 exact ⟨by rw [hz,he.1],he.2.symm⟩
theorem zok_spec {q : TI} (h : q.zok = true) : (∃ l,q.zero = some l ∧ l.length = q.size) ∧ 1 ≤ q.size:=by
 unfold TI.zok at h
 split at h
 ·rename_i l hl
  simp only [Bool.and_eq_true,beq_iff_eq,decide_eq_true_eq] at h
  exact ⟨⟨l,hl,h.1⟩,h.2⟩
 ·cases h
theorem elemT_spec {t e : TypeId} (h : elemT P t = some e) : P.underlying t = some (.slice e):=by
 unfold elemT at h
 split at h
 ·rename_i e' he
  simp only [Option.some.injEq] at h
  subst h
  exact he
 ·cases h
theorem bind_elem {t : TypeId} {q : TI} (h : (elemT P t).bind (tI P) = some q) : ∃ e,P.underlying t = some (.slice e) ∧ tI P e = some q:=by
 cases e : elemT P t with
 | none => simp [e] at h
 | some e' => rw [e] at h; exact ⟨e',elemT_spec e,h⟩
theorem zae7 {t : Option TypeId} {q : TI} (h : (t.bind (elemT P)).bind (tI P) = some q) : ∃ s e,t = some s ∧ P.underlying s = some (.slice e) ∧ tI P e = some q:=by
 cases t with
 | none => simp at h
 | some s =>
  obtain ⟨e,h1,h2⟩:=bind_elem (t:=s) (by simpa using h)
  exact ⟨s,e,rfl,h1,h2⟩
theorem cXs_one {xs : Array Operand} {ax : AX} (h : cXs xs = some [ax]) : ∃ x,xs = #[x] ∧ cX x = some ax:=by
 have:=zhc7 h
 have hl:=congrArg List.length this
 simp at hl
 cases xs with
 | mk l =>
  match l,hl with
  | [x],_ => exact ⟨x,rfl,by simpa using this⟩
theorem cXs_two {xs : Array Operand} {ax ay : AX} (h : cXs xs = some [ax,ay]) : ∃ x y,xs = #[x,y] ∧ cX x = some ax ∧ cX y = some ay:=by
 have:=zhc7 h
 have hl:=congrArg List.length this
 simp at hl
 cases xs with
 | mk l =>
  match l,hl with
  | [x,y],_ => exact ⟨x,y,rfl,by simpa using this⟩
theorem snd_mv (hI : Inv B C) (hE : RepE C g a) {x : Operand} (hop : o.op = .move x ∨ o.op = .assign x)
  (hc : cOp P m o = some k) (h : opE site k g C.ρ = some (v,upd)) : Does P o a C.w (Owes B C v upd):=by
 have hc' : (if m.md = .d then (cX x).map .mv else
   match x with
   | .const (.slice none 0 0) => match (elemT P o.type).bind (tI P) with
    | some i => if 1 ≤ i.size then some (AK.mvNil m.md i.size) else none
    | none => none
   | _ => none) = some k:=by
  rcases hop with hop | hop <;> simp only [cOp,hop] at hc <;> rw [← hc] <;> rfl
 replace hc:=hc'
 split at hc
 ·obtain ⟨ax,hx,rfl⟩:=zga7 hc
  simp only [opE,Option.some.injEq,Prod.mk.injEq] at h
  obtain ⟨rfl,rfl⟩:=h
  exact op_mv hI hE hop hx
 ·split at hc
  ·split at hc
   ·rename_i i hi
    split at hc
    ·rename_i hsz
     simp only [Option.some.injEq] at hc
     subst hc
     simp only [opE] at h
     split at h
     ·cases h
     ·rename_i nv hnv
      cases hmd : m.md <;> simp only [hmd] at h
      ·cases h
      ·rw [if_pos hsz] at h
       simp only [Option.some.injEq,Prod.mk.injEq] at h
       obtain ⟨rfl,rfl⟩:=h
       exact op_mvNil hI hop hnv hsz (.inl rfl)
      ·rw [if_pos hsz] at h
       simp only [Option.some.injEq,Prod.mk.injEq] at h
       obtain ⟨rfl,rfl⟩:=h
       exact op_mvNil hI hop hnv hsz (.inr rfl)
      ·cases h
    ·cases hc
   ·cases hc
  ·cases hc
theorem snd_bldS (hI : Inv B C) (hE : RepE C g a) {t : TypeId} {n : Nat} {parts : Array (Nat × Operand)} (hop : o.op = .buildSlice t n parts) (hc : cOp P m o = some k) (h : opE site k g C.ρ = some (v,upd)) : Does P o a C.w (Owes B C v upd):=by
 simp only [cOp,hop] at hc
 split at hc
 ·rename_i i xs hi hxs
  split at hc
  ·rename_i hcond
   obtain ⟨c1,c2,c3,c4⟩:=hcond
   simp only [Option.some.injEq] at hc
   subst hc
   obtain ⟨e,e1,e2⟩:=bind_elem hi
   simp only [opE] at h
   cases hmd : m.md <;> simp only [hmd] at h
   ·split at h
    ·rename_i ds fs hds
     split at h
     ·rename_i hw
      simp only [Option.some.injEq,Prod.mk.injEq] at h
      obtain ⟨rfl,rfl⟩:=h
      exact op_bldSd hI hE hop e1 e2 c4 hxs c1 c2 hds hw
     ·cases h
    ·cases h
   ·split at h
    ·rename_i ds fs hds
     split at h
     ·rename_i hw
      split at h
      ·rename_i nv hnv
       split at h
       ·rename_i hh
        simp only [Option.some.injEq,Prod.mk.injEq] at h
        obtain ⟨rfl,rfl⟩:=h
        exact op_bldSo hI hE hop e1 e2 c3 c4 hxs c1 c2 hds hw hnv hh.2
       ·cases h
      ·cases h
     ·cases h
    ·cases h
   ·split at h
    ·rename_i hh
     simp only [Option.some.injEq,Prod.mk.injEq] at h
     obtain ⟨rfl,rfl⟩:=h
     exact op_bldSr hI hE hop e1 e2 c4 hxs c1 c2 hh.2
    ·cases h
   ·split at h
    ·rename_i hn0
     simp only [Option.some.injEq,Prod.mk.injEq] at h
     obtain ⟨rfl,rfl⟩:=h
     exact op_bldS0 hI hE hop e1 e2 c4 hxs c1 c2 (by simpa using hn0)
    ·split at h
     ·rename_i nv hnv
      split at h
      ·rename_i hh
       simp only [Option.some.injEq,Prod.mk.injEq] at h
       obtain ⟨rfl,rfl⟩:=h
       exact op_bldSf hI hE hop e1 e2 c3 c4 hxs c1 c2 hh.2 hnv
      ·cases h
     ·cases h
  ·cases hc
 ·cases hc
theorem snd_mk (hI : Inv B C) (hE : RepE C g a) {t : TypeId} {l c : Operand} (hop : o.op = .makeSlice t l c) (hc : cOp P m o = some k) (h : opE site k g C.ρ = some (v,upd)) : Does P o a C.w (Owes B C v upd):=by
 simp only [cOp,hop] at hc
 split at hc
 ·rename_i i al ac hi hl hcc
  obtain ⟨zero,hz,rfl⟩:=zga7 hc
  obtain ⟨e,e1,e2⟩:=bind_elem hi
  simp only [opE] at h
  split at h
  ·rename_i ln cn hln hcn
   split at h
   ·rename_i hb
    cases hmd : m.md <;> simp only [hmd] at h
    ·split at h
     ·rename_i z hzd
      split at h
      ·rename_i hw
       simp only [Option.some.injEq,Prod.mk.injEq] at h
       obtain ⟨rfl,rfl⟩:=h
       exact op_mkd hI hE hop hl hcc e1 e2 hz hln hcn hb hzd hw
      ·cases h
     ·cases h
    ·split at h
     ·rename_i z hzd
      split at h
      ·rename_i hw
       split at h
       ·cases h
       ·rename_i nv hnv
        simp only [Option.some.injEq,Prod.mk.injEq] at h
        obtain ⟨rfl,rfl⟩:=h
        exact op_mko hI hE hop hl hcc e1 e2 hz hln hcn hb hzd hw hnv
      ·cases h
     ·cases h
    ·split at h
     ·rename_i nv hnv
      split at h
      ·rename_i hh
       simp only [Option.some.injEq,Prod.mk.injEq] at h
       obtain ⟨rfl,rfl⟩:=h
       exact op_mkr hI hE hop hl hcc e1 e2 hz hln hcn hb hh.1 hh.2.1 hnv
      ·cases h
     ·cases h
    ·split at h
     ·rename_i z hzd
      split at h
      ·rename_i hw
       split at h
       ·cases h
       ·rename_i nv hnv
        simp only [Option.some.injEq,Prod.mk.injEq] at h
        obtain ⟨rfl,rfl⟩:=h
        exact op_mko hI hE hop hl hcc e1 e2 hz hln hcn hb hzd hw hnv
      ·cases h
     ·cases h
   ·cases h
  ·cases h
 ·cases hc
theorem snd_app (hI : Inv B C) (hE : RepE C g a) {c : Call} {ax ay : AX} {q : TI} {md : Md} (hop : o.op = .call c) (hcal : c.callee = .builtin .append) (hargs : cXs c.args = some [ax,ay]) (hq : ((c.argTypes[0]?).bind (elemT P)).bind (tI P) = some q)
  (hxt : (∃ e',(c.argTypes[1]?).bind P.underlying = some (.slice e')) ∨ (c.argTypes[1]?).bind P.underlying = some .string) (hz : q.zok = true)
  (h : opE site (.app md q.size q.bytes ax ay) g C.ρ = some (v,upd)) : Does P o a C.w (Owes B C v upd):=by
 obtain ⟨x,y,ha,hx,hy⟩:=cXs_two hargs
 obtain ⟨sT,e,h0,hs,hqe⟩:=zae7 hq
 obtain ⟨hzl,hsz⟩:=zok_spec hz
 obtain ⟨xT,h1,hxT⟩ : ∃ xT,c.argTypes[1]? = some xT ∧ ((∃ e',P.underlying xT = some (.slice e')) ∨ P.underlying xT = some .string):=by
  cases e1 : c.argTypes[1]? with
  | none => simp [e1] at hxt
  | some xT => exact ⟨xT,rfl,by simpa [e1] using hxt⟩
 simp only [opE] at h
 split at h
 ·rename_i id ver sz' off len hX
  split at h
  ·rename_i sz'' ver' es hρ
   split at h
   ·rename_i ds hds
    split at h
    ·rename_i hcond
     obtain ⟨rfl,rfl,rfl,rfl,hlen,hroom⟩:=hcond
     have:=op_app hI hE hop hcal ha h0 h1 hs hxT hqe hzl hx hy hX hρ hds hlen hroom
     split at h
     ·rename_i hd
      simp only [Option.some.injEq,Prod.mk.injEq] at h
      obtain ⟨rfl,rfl⟩:=h
      simpa only [hd,if_true] using this
     ·rename_i hd
      simp only [Option.some.injEq,Prod.mk.injEq] at h
      obtain ⟨rfl,rfl⟩:=h
      simpa only [hd,if_false] using this
    ·cases h
   ·cases h
  ·rename_i sz'' ver' es hρ
   split at h
   ·rename_i rows hY
    split at h
    ·rename_i hcond
     obtain ⟨rfl,e1,e2,rfl,hlen,hroom⟩:=hcond
     subst e1
     subst e2
     split at h
     ·rename_i hd
      simp only [Option.some.injEq,Prod.mk.injEq] at h
      obtain ⟨rfl,rfl⟩:=h
      have hrows : rows = []:=List.eq_nil_of_length_eq_zero hd
      subst hrows
      have hrx:=zia7 (C:=C) hE hx
      rw [hX] at hrx
      simp only [RepA] at hrx
      obtain ⟨A,p,cap,_,_,a3,a4,_⟩:=hrx
      exact op_appZ hI hE hop hcal ha h0 h1 hs hxT hqe hx hy ⟨p,len,cap,a3,a4⟩ hY hX.symm
     ·rename_i hd
      simp only [Option.some.injEq,Prod.mk.injEq] at h
      obtain ⟨rfl,rfl⟩:=h
      exact op_appR hI hE hop hcal ha h0 h1 hs hxT hqe hzl hx hy hX hρ hY hlen hd hroom
    ·cases h
   ·cases h
  ·cases h
 ·rename_i hX
  have hrx:=zia7 (C:=C) hE hx
  rw [hX] at hrx
  simp only [RepA] at hrx
  split at h
  ·split at h
   ·rename_i rows hY
    split at h
    ·rename_i hd
     simp only [Option.some.injEq,Prod.mk.injEq] at h
     obtain ⟨rfl,rfl⟩:=h
     have hrows : rows = []:=List.eq_nil_of_length_eq_zero hd
     subst hrows
     exact op_appZ hI hE hop hcal ha h0 h1 hs hxT hqe hx hy ⟨none,0,0,hrx,Nat.le_refl _⟩ hY hX.symm
    ·rename_i hd
     split at h
     ·rename_i nv hnv
      split at h
      ·rename_i hcond
       obtain ⟨e2,hroom⟩:=hcond
       simp only [Option.some.injEq,Prod.mk.injEq] at h
       obtain ⟨rfl,rfl⟩:=h
       exact zye7 hI hop hcal ha h0 h1 hs hxT hqe hzl e2 ⟨none,hrx⟩ hY (zia7 hE hy) hnv hd hroom
      ·cases h
     ·cases h
   ·cases h
  ·split at h
   ·rename_i ds hds
    split at h
    ·rename_i hd
     simp only [Option.some.injEq,Prod.mk.injEq] at h
     obtain ⟨rfl,rfl⟩:=h
     have:=op_appNil (site:=site) (nv:=0) hI hE hop hcal ha h0 h1 hs hxT hqe hzl hsz hx hy hX hds (fun e => absurd hd e) (fun e => absurd hd e)
     rwa [if_pos hd] at this
    ·rename_i hd
     split at h
     ·rename_i nv hnv
      split at h
      ·rename_i hcond
       simp only [Option.some.injEq,Prod.mk.injEq] at h
       obtain ⟨rfl,rfl⟩:=h
       have:=op_appNil hI hE hop hcal ha h0 h1 hs hxT hqe hzl hsz hx hy hX hds (fun _ => hnv) (fun _ => hcond.2)
       rwa [if_neg hd] at this
      ·cases h
     ·cases h
   ·cases h
 ·rename_i hX
  have hrx:=zia7 (C:=C) hE hx
  rw [hX] at hrx
  simp only [RepA] at hrx
  split at h
  ·split at h
   ·rename_i rows hY
    split at h
    ·rename_i hd
     simp only [Option.some.injEq,Prod.mk.injEq] at h
     obtain ⟨rfl,rfl⟩:=h
     have hrows : rows = []:=List.eq_nil_of_length_eq_zero hd
     subst hrows
     obtain ⟨p,hrx⟩:=hrx
     exact op_appZ hI hE hop hcal ha h0 h1 hs hxT hqe hx hy ⟨p,0,0,hrx,Nat.le_refl _⟩ hY hX.symm
    ·rename_i hd
     split at h
     ·rename_i nv hnv
      split at h
      ·rename_i hcond
       obtain ⟨e2,hroom⟩:=hcond
       simp only [Option.some.injEq,Prod.mk.injEq] at h
       obtain ⟨rfl,rfl⟩:=h
       exact zye7 hI hop hcal ha h0 h1 hs hxT hqe hzl e2 hrx hY (zia7 hE hy) hnv hd hroom
      ·cases h
     ·cases h
   ·cases h
  ·split at h
   ·rename_i ds hds
    split at h
    ·rename_i hd
     simp only [Option.some.injEq,Prod.mk.injEq] at h
     obtain ⟨rfl,rfl⟩:=h
     have:=op_appCap (site:=site) (nv:=0) hI hE hop hcal ha h0 h1 hs hxT hqe hzl hsz hx hy hX hds (fun e => absurd hd e) (fun e => absurd hd e)
     rwa [if_pos hd] at this
    ·rename_i hd
     split at h
     ·rename_i nv hnv
      split at h
      ·rename_i hcond
       simp only [Option.some.injEq,Prod.mk.injEq] at h
       obtain ⟨rfl,rfl⟩:=h
       have:=op_appCap hI hE hop hcal ha h0 h1 hs hxT hqe hzl hsz hx hy hX hds (fun _ => hnv) (fun _ => hcond.2)
       rwa [if_neg hd] at this
      ·cases h
     ·cases h
   ·cases h
 ·rename_i l hX
  split at h
  ·rename_i ds nv hds hnv
   split at h
   ·rename_i hcond
    obtain ⟨_,hd,hw,hroom⟩:=hcond
    simp only [Option.some.injEq,Prod.mk.injEq] at h
    obtain ⟨rfl,rfl⟩:=h
    exact op_appFull hI hE hop hcal ha h0 h1 hs hxT hqe hzl hsz hx hy hX hds hnv hd hw hroom
   ·cases h
  ·cases h
 ·cases h
theorem snd_slc3 (hI : Inv B C) (hE : RepE C g a) {t e : TypeId} {x hi mx : Operand} {lo : Option Operand} {q : TI} {ax al ah am : AX} (hop : o.op = .slice t x lo (some hi) (some mx)) (hx : cX x = some ax)
  (hl : (lo = none ∧ al = .c (.dat (.int .i64 0))) ∨ ∃ lo',lo = some lo' ∧ cX lo' = some al) (hh : cX hi = some ah) (hm : cX mx = some am)
  (ht : P.underlying t = some (.slice e)) (hq : tI P e = some q) (h : opE site (.slc3 q.size ax al ah am) g C.ρ = some (v,upd)) : Does P o a C.w (Owes B C v upd):=by
 simp only [opE] at h
 split at h
 ·rename_i l hh' m' h1 h2 h3
  split at h
  ·rename_i ds ids hd
   split at h
   ·rename_i hb
    obtain ⟨v',hv,he⟩:=zga7 h
    simp only [Prod.mk.injEq] at he
    obtain ⟨rfl,rfl⟩:=he
    obtain ⟨v2,hv2,rfl⟩:=Option.map_eq_some_iff.1 hv
    refine op_slc3 hI hE hop hx ?_ hh hm ht hq h2 h3 hd hb hv2
    rcases hl with ⟨rfl,rfl⟩ | ⟨lo',rfl,hl⟩
    ·simp [evX,zmb7] at h1
     exact .inl ⟨rfl,h1.symm⟩
    ·exact .inr ⟨lo',al,rfl,hl,h1⟩
   ·cases h
  ·cases h
 ·cases h
theorem snd_builtin (hI : Inv B C) (hE : RepE C g a) {c : Call} (hop : o.op = .call c) (hc : cOp P m o = some k) (h : opE site k g C.ρ = some (v,upd)) : Does P o a C.w (Owes B C v upd):=by
 simp only [cOp,hop] at hc
 split at hc
 ·rename_i ax hcal hargs
  obtain ⟨x,ha,hx⟩:=cXs_one hargs
  split at hc
  ·rename_i e hu
   simp only [Option.some.injEq] at hc
   subst hc
   simp only [opE,Bool.false_eq_true,if_false] at h
   obtain ⟨hv,rfl⟩:=ztb7 h
   cases e0 : c.argTypes[0]? with
   | none => simp [e0] at hu
   | some t => exact op_len hI hE hop hcal ha e0 (by simpa [e0] using hu) hx hv
  ·rename_i hu
   simp only [Option.some.injEq] at hc
   subst hc
   simp only [opE,if_true] at h
   obtain ⟨hv,rfl⟩:=ztb7 h
   cases e0 : c.argTypes[0]? with
   | none => simp [e0] at hu
   | some t => exact op_lenS hI hE hop hcal ha e0 (by simpa [e0] using hu) hx hv
  ·rename_i hu
   simp only [Option.some.injEq] at hc
   subst hc
   simp only [opE] at h
   obtain ⟨hv,rfl⟩:=ztb7 h
   cases e0 : c.argTypes[0]? with
   | none => simp [e0] at hu
   | some t => exact op_lenM hI hE hop hcal ha e0 (by simpa [e0] using hu) hx hv
  ·cases hc
 ·rename_i ax hcal hargs
  obtain ⟨x,ha,hx⟩:=cXs_one hargs
  split at hc
  ·rename_i e hu
   simp only [Option.some.injEq] at hc
   subst hc
   simp only [opE] at h
   obtain ⟨hv,rfl⟩:=ztb7 h
   cases e0 : c.argTypes[0]? with
   | none => simp [e0] at hu
   | some t => exact op_cap hI hE hop hcal ha e0 (by simpa [e0] using hu) hx hv
  ·cases hc
 ·rename_i ax ay hcal hargs
  split at hc
  ·rename_i q e' hq hxt
   split at hc
   ·rename_i hz
    simp only [Option.some.injEq] at hc
    subst hc
    exact snd_app hI hE hop hcal hargs hq (.inl ⟨e',hxt⟩) hz h
   ·cases hc
  ·rename_i q hq hxt
   split at hc
   ·rename_i hz
    simp only [Option.some.injEq] at hc
    subst hc
    exact snd_app hI hE hop hcal hargs hq (.inr hxt) hz h
   ·cases hc
  ·rename_i q kk hq hxt
   obtain ⟨zero,hz,rfl⟩:=zga7 hc
   obtain ⟨x,y,ha,hx,hy⟩:=cXs_two hargs
   obtain ⟨sT,e,h0,hs,hqe⟩:=zae7 hq
   cases h1 : c.argTypes[1]? with
   | none => simp [h1] at hxt
   | some xT =>
    have hxT : P.underlying xT = some (.int kk):=by simpa [h1] using hxt
    simp only [opE] at h
    split at h
    ·rename_i hX
     split at h
     ·rename_i n z hY hd
      split at h
      ·rename_i hcond
       obtain ⟨b1,b2,b3,b4⟩:=hcond
       split at h
       ·rename_i nv hnv
        simp only [Option.some.injEq,Prod.mk.injEq] at h
        obtain ⟨rfl,rfl⟩:=h
        exact op_appZn hI hE hop hcal ha h0 h1 hs hxT hqe hz hd ⟨b3,b4⟩ hx hy hX hY ⟨b1,b2⟩ hnv
       ·cases h
      ·cases h
     ·cases h
    ·cases h
  ·cases hc
 ·rename_i ax ay hcal hargs
  obtain ⟨x,y,ha,hx,hy⟩:=cXs_two hargs
  split at hc
  ·rename_i q hq
   simp only [Option.some.injEq] at hc
   subst hc
   obtain ⟨sT,e,h0,hs,hqe⟩:=zae7 hq
   simp only [opE] at h
   split at h
   ·rename_i id ver sz' off len ds hX hds
    split at h
    ·rename_i sz'' ver' es hρ
     split at h
     ·rename_i hcond
      obtain ⟨rfl,rfl,rfl,hb⟩:=hcond
      simp only [Option.some.injEq,Prod.mk.injEq] at h
      obtain ⟨rfl,rfl⟩:=h
      exact op_cpy hI hE hop hcal ha h0 hs hqe hx hy hX hρ hds hb
     ·cases h
    ·cases h
   ·cases h
  ·cases hc
 ·rename_i ax hcal hargs
  obtain ⟨x,ha,hx⟩:=cXs_one hargs
  split at hc
  ·rename_i q hq
   split at hc
   case isFalse => cases hc
   rename_i hzk
   replace hzk:=zok_spec hzk
   obtain ⟨zero,hz,rfl⟩:=zga7 hc
   obtain ⟨sT,e,h0,hs,hqe⟩:=zae7 hq
   simp only [opE] at h
   split at h
   ·rename_i id ver sz off len z hX hzd
    split at h
    ·rename_i sz' ver' es hρ
     split at h
     ·rename_i hcond
      obtain ⟨rfl,rfl,hb,hw⟩:=hcond
      simp only [Option.some.injEq,Prod.mk.injEq] at h
      obtain ⟨rfl,rfl⟩:=h
      have hrx:=zia7 hE hx
      rw [hX] at hrx
      obtain ⟨o1,_⟩:=hI.objs id _ hρ
      have hszq : sz = q.size:=by
       obtain ⟨zv,hzv,hcs⟩:=tI_zero hqe hz
       have h1:=(zeroDat_rep (F:=C.F) hzd hcs).length
       have h2:=congrArg List.length (zhc7 hcs)
       obtain ⟨l,hl1,hl2⟩:=hzk.1
       rw [hz] at hl1
       cases hl1
       simp at h2 h1
       omega
      subst hszq
      exact op_clr hI hE hop hcal ha h0 hs hqe hz hzd hw hx hX hρ hb
     ·cases h
    ·cases h
   ·cases h
  ·cases hc
 ·rename_i ax r hcal hargs
  simp only [Option.some.injEq] at hc
  subst hc
  simp only [opE] at h
  obtain ⟨hv,rfl⟩:=ztb7 h
  exact op_mm (isMax:=true) hI hE hop hcal hargs hv
 ·rename_i ax r hcal hargs
  simp only [Option.some.injEq] at hc
  subst hc
  simp only [opE] at h
  obtain ⟨hv,rfl⟩:=ztb7 h
  exact op_mm (isMax:=false) hI hE hop hcal hargs hv
 ·split at hc
  ·split at hc
   ·simp only [Option.some.injEq] at hc
    subst hc
    simp [opE] at h
   ·split at hc
    ·simp only [Option.some.injEq] at hc
     subst hc
     simp [opE] at h
    ·cases hc
  ·cases hc
 ·obtain ⟨ax,hx,rfl⟩:=zga7 hc
  simp [opE] at h
 ·cases hc
theorem op_sound (hI : Inv B C) (hE : RepE C g a) (hc : cOp P m o = some k) (h : opE site k g C.ρ = some (v,upd)) : Does P o a C.w (Owes B C v upd):=by
 cases hop : o.op with
 | move x => exact snd_mv hI hE (.inl hop) hc h
 | assign x => exact snd_mv hI hE (.inr hop) hc h
 | pick c x y =>
  simp only [cOp,hop] at hc
  split at hc
  ·rename_i ac ax ay hc' hx hy
   simp only [Option.some.injEq] at hc
   subst hc
   simp only [opE] at h
   split at h
   ·rename_i t ht
    simp only [Option.some.injEq,Prod.mk.injEq] at h
    obtain ⟨rfl,rfl⟩:=h
    exact op_pick hI hE hop hc' hx hy ht
   ·cases h
  ·cases hc
 | nilCheck x =>
  simp only [cOp,hop] at hc
  obtain ⟨ax,hx,rfl⟩:=zga7 hc
  simp only [opE] at h
  split at h <;> (try (cases h; done)) <;> simp only [Option.some.injEq,Prod.mk.injEq] at h <;> obtain ⟨rfl,rfl⟩:=h
  ·rename_i id off e; rw [← e]; exact op_nilChk hI hE hop hx (.inl ⟨_,_,e⟩)
  ·rename_i id ver i off e; rw [← e]; exact op_nilChk hI hE hop hx (.inr (.inl ⟨_,_,_,_,e⟩))
  ·rename_i l e; rw [← e]; exact op_nilChk hI hE hop hx (.inr (.inr (.inl ⟨_,e⟩)))
  ·rename_i f l e; rw [← e]; exact op_nilChk hI hE hop hx (.inr (.inr (.inr ⟨_,_,e⟩)))
 | binOp op t x y u =>
  simp only [cOp,hop] at hc
  split at hc
  ·rename_i bk ax ay hb hx hy
   simp only [Option.some.injEq] at hc
   subst hc
   simp only [opE] at h
   obtain ⟨hv,rfl⟩:=ztb7 h
   exact op_bin hI hE hop hb hx hy hv
  ·cases hc
 | unOp op t x =>
  simp only [cOp,hop] at hc
  obtain ⟨ax,hx,rfl⟩:=zga7 hc
  simp only [opE] at h
  obtain ⟨hv,rfl⟩:=ztb7 h
  exact op_un hI hE hop hx hv
 | convert s d x =>
  simp only [cOp,hop] at hc
  split at hc
  ·rename_i k1 k2 ax hs hd hx
   simp only [Option.some.injEq] at hc
   subst hc
   simp only [opE] at h
   split at h
   ·rename_i k3 n hn
    simp only [Option.some.injEq,Prod.mk.injEq] at h
    obtain ⟨rfl,rfl⟩:=h
    exact op_cvt hI hE hop hx hs hd hn
   ·cases h
  ·rename_i e ax hs hd hx
   split at hc
   ·rename_i i he hi
    split at hc
    ·simp only [Option.some.injEq] at hc
     subst hc
     simp only [opE] at h
     split at h
     ·rename_i l hl
      split at h
      ·rename_i r hr
       simp only [Option.some.injEq,Prod.mk.injEq] at h
       obtain ⟨rfl,rfl⟩:=h
       exact op_b2s hI hE hop hx hs he hd hl hr
      ·cases h
     ·cases h
    ·cases hc
   ·cases hc
  ·cases hc
 | fieldAddr t x f =>
  simp only [cOp,hop] at hc
  split at hc
  ·rename_i off i ax hf hx
   split at hc
   ·cases hc
   ·rename_i hq
    simp only [Option.some.injEq] at hc
    subst hc
    simp only [opE] at h
    obtain ⟨hv,rfl⟩:=ztb7 h
    exact op_fAddr hI hE hop hx hf hq hv
  ·cases hc
 | field t x f =>
  simp only [cOp,hop] at hc
  split at hc
  ·rename_i off i ax hf hx
   split at hc
   ·rename_i hq
    simp only [Option.some.injEq] at hc
    subst hc
    simp only [opE] at h
    obtain ⟨hv,rfl⟩:=ztb7 h
    exact op_fld hI hE hop hx hf hq hv
   ·cases hc
  ·cases hc
 | indexAddr t x i =>
  simp only [cOp,hop] at hc
  split at hc
  ·rename_i e ax ai ht hx hi
   obtain ⟨q,hq,rfl⟩:=zga7 hc
   simp only [opE] at h
   split at h
   ·rename_i n hn
    obtain ⟨hv,rfl⟩:=ztb7 h
    exact op_iAddr hI hE hop hx hi ht hq hn hv
   ·cases h
  ·rename_i n e ax ai ht hx hi
   obtain ⟨q,hq,rfl⟩:=zga7 hc
   simp only [opE] at h
   split at h
   ·rename_i n' hn
    split at h
    ·rename_i hb
     obtain ⟨hv,rfl⟩:=ztb7 h
     exact op_iAddrA hI hE hop hx hi ht hq hn hb hv
    ·cases h
   ·cases h
  ·cases hc
 | index t x i =>
  simp only [cOp,hop] at hc
  split at hc
  ·rename_i n e ax ai ht hx hi
   split at hc
   ·rename_i q hq
    split at hc
    ·rename_i hq1
     simp only [Option.some.injEq] at hc
     subst hc
     simp only [opE] at h
     split at h
     ·rename_i n' hn
      split at h
      ·rename_i hb
       obtain ⟨hv,rfl⟩:=ztb7 h
       exact op_idx hI hE hop hx hi ht hq hq1 hn hb hv
      ·cases h
     ·cases h
    ·cases hc
   ·cases hc
  ·rename_i ax ai ht hx hi
   simp only [Option.some.injEq] at hc
   subst hc
   simp only [opE] at h
   split at h
   ·rename_i s i' hs hn
    split at h
    ·rename_i h0
     obtain ⟨b,hb,he⟩:=zga7 h
     simp only [Prod.mk.injEq] at he
     obtain ⟨rfl,rfl⟩:=he
     exact op_idxS hI hE hop hx hi ht hn hs h0 hb
    ·cases h
   ·cases h
  ·cases hc
 | extract x i =>
  simp only [cOp,hop] at hc
  obtain ⟨ax,hx,rfl⟩:=zga7 hc
  simp only [opE] at h
  split at h
  ·rename_i l hl
   obtain ⟨hv,rfl⟩:=ztb7 h
   exact op_ext hI hE hop hx hl hv
  ·cases h
 | load t x =>
  simp only [cOp,hop] at hc
  split at hc
  ·rename_i i ax hq hx
   split at hc
   ·rename_i hq1
    simp only [Option.some.injEq] at hc
    subst hc
    simp only [opE] at h
    obtain ⟨hv,rfl⟩:=ztb7 h
    exact op_ld hI hE hop hx hq hq1 hv
   ·cases hc
  ·cases hc
 | store t x y =>
  simp only [cOp,hop] at hc
  split at hc
  ·rename_i i ax ay hq hx hy
   split at hc
   ·rename_i hq1
    simp only [Option.some.injEq] at hc
    subst hc
    simp only [opE] at h
    obtain ⟨u,hu,he⟩:=zga7 h
    simp only [Prod.mk.injEq] at he
    obtain ⟨rfl,rfl⟩:=he
    exact op_st hI hE hop hx hy hq hq1 hu
   ·cases hc
  ·cases hc
 | box t x =>
  simp only [cOp,hop] at hc
  split at hc
  ·rename_i i ax hq hx
   simp only [Option.some.injEq] at hc
   subst hc
   simp only [opE] at h
   split at h
   ·cases h
   ·rename_i hid
    split at h
    ·rename_i hh
     simp only [Option.some.injEq,Prod.mk.injEq] at h
     obtain ⟨rfl,rfl⟩:=h
     exact op_box hI hE hop hx hid hh.2
    ·cases h
  ·cases hc
 | alloc t =>
  simp only [cOp,hop] at hc
  split at hc
  ·rename_i i hq
   obtain ⟨z,hz,rfl⟩:=zga7 hc
   simp only [opE] at h
   split at h
   ·cases h
   ·rename_i hid
    simp only [Option.some.injEq,Prod.mk.injEq] at h
    obtain ⟨rfl,rfl⟩:=h
    exact op_alc hI hop hq hz hid
  ·cases hc
 | build t parts =>
  simp only [cOp,hop] at hc
  split at hc
  ·rename_i n e hu
   split at hc
   ·rename_i i q hq hi
    split at hc
    ·rename_i ps hps
     obtain ⟨z,hz,rfl⟩:=zga7 hc
     simp only [opE] at h
     obtain ⟨cs,hcs,he⟩:=zga7 h
     simp only [Prod.mk.injEq] at he
     obtain ⟨rfl,rfl⟩:=he
     exact op_bldA hI hE hop hu hq hi hz hps hcs
    ·cases hc
   ·cases hc
  ·split at hc
   ·rename_i i ps hq hps
    split at hc
    ·rename_i hst
     obtain ⟨z,hz,rfl⟩:=zga7 hc
     simp only [opE] at h
     obtain ⟨cs,hcs,he⟩:=zga7 h
     simp only [Prod.mk.injEq] at he
     obtain ⟨rfl,rfl⟩:=he
     refine op_bld hI hE hop hq hz hps ?_ hcs
     unfold structOk at hst
     split at hst
     ·rename_i fs hu
      exact ⟨fs,hu,fun fd hfd => by rw [List.all_eq_true] at hst; exact hst fd hfd⟩
     ·cases hst
    ·cases hc
   ·cases hc
 | buildSlice t n parts => exact snd_bldS hI hE hop hc h
 | makeSlice t l c => exact snd_mk hI hE hop hc h
 | slice t x lo hi mx =>
  cases mx with
  | some mx =>
   cases lo with
   | none =>
    cases hi with
    | none => simp only [cOp,hop] at hc; cases hc
    | some hi =>
     simp only [cOp,hop] at hc
     split at hc
     ·rename_i e ax ah am ht hx hh hm
      obtain ⟨q,hq,rfl⟩:=zga7 hc
      exact snd_slc3 hI hE hop hx (.inl ⟨rfl,rfl⟩) hh hm ht hq h
     ·cases hc
   | some lo =>
    cases hi with
    | none => simp only [cOp,hop] at hc; cases hc
    | some hi =>
     simp only [cOp,hop] at hc
     split at hc
     ·rename_i e ax al ah am ht hx hl hh hm
      obtain ⟨q,hq,he⟩:=zga7 hc
      split at he
      ·subst he
       simp only [opE] at h
       split at h
       ·rename_i h1 h2 h3
        obtain ⟨hv,rfl⟩:=ztb7 h
        exact op_slc0 hI hE hop hx hl hh hm ht (by simp [hq]) h1 h2 h3 hv
       ·cases h
      ·subst he
       exact snd_slc3 hI hE hop hx (.inr ⟨lo,rfl,hl⟩) hh hm ht hq h
     ·cases hc
  | none =>
   simp only [cOp,hop] at hc
   split at hc
   ·rename_i str sz ax alo ahi hty hx hlo hhi
    simp only [Option.some.injEq] at hc
    subst hc
    have hlo' : optX lo = some alo:=by cases lo <;> exact hlo
    have hhi' : optX hi = some ahi:=by cases hi <;> exact hhi
    simp only [opE] at h
    split at h
    ·rename_i l hh hl hhv
     obtain ⟨hv,rfl⟩:=ztb7 h
     split at hty
     ·rename_i ht
      simp only [Option.some.injEq,Prod.mk.injEq] at hty
      obtain ⟨rfl,rfl⟩:=hty
      simp only [if_true] at hv
      exact op_slcS hI hE hop hx hlo' hhi' ht (by cases alo <;> exact hl) (by cases ahi <;> exact hhv) hv
     ·rename_i e ht
      obtain ⟨q,hq,he⟩:=zga7 hty
      simp only [Prod.mk.injEq] at he
      obtain ⟨rfl,rfl⟩:=he
      simp only [Bool.false_eq_true,if_false] at hv
      exact op_slc hI hE hop hx hlo' hhi' ht hq (by cases alo <;> exact hl) (by cases ahi <;> exact hhv) hv
     ·cases hty
    ·cases h
   ·cases hc
 | makeFunc fn first captured =>
  cases fn with
  | func f =>
   simp only [cOp,hop] at hc
   split at hc
   ·cases hc
   ·rename_i hbig
    split at hc
    ·rename_i h0
     obtain ⟨axs,hx,rfl⟩:=zga7 hc
     simp only [opE,Option.some.injEq,Prod.mk.injEq] at h
     obtain ⟨rfl,rfl⟩:=h
     exact op_mkf hI hE hop hbig h0 hx
    ·split at hc
     ·rename_i h0
      obtain ⟨axs,hx,rfl⟩:=zga7 hc
      simp only [opE,Option.some.injEq,Prod.mk.injEq] at h
      obtain ⟨rfl,rfl⟩:=h
      exact op_mkb hI hE hop h0 hx
     ·cases hc
  | _ => simp only [cOp,hop] at hc; cases hc
 | makeMap t r =>
  cases r with
  | some r => simp only [cOp,hop] at hc; cases hc
  | none =>
   simp only [cOp,hop,Option.some.injEq] at hc
   subst hc
   simp only [opE] at h
   split at h
   ·cases h
   ·rename_i e
    simp only [Option.some.injEq,Prod.mk.injEq] at h
    obtain ⟨rfl,rfl⟩:=h
    exact op_mkMap hI hop e
 | lookup t x i ok =>
  simp only [cOp,hop] at hc
  split at hc
  ·rename_i kt sh et q am ak hT hm hk
   split at hc
   ·rename_i z hz
    split at hc
    ·rename_i hag
     simp only [Option.some.injEq] at hc
     subst hc
     simp only [opE] at h
     obtain ⟨hv,rfl⟩:=ztb7 h
     exact op_lkp hI hE hop hm hk hT hz hag hv
    ·cases hc
   ·cases hc
  ·cases hc
 | mapUpdate t x i y =>
  simp only [cOp,hop] at hc
  split at hc
  ·rename_i kt sh et q am ak av hT hm hk hx
   simp only [Option.some.injEq] at hc
   subst hc
   simp only [opE] at h
   obtain ⟨u,hu,he⟩:=zga7 h
   simp only [Prod.mk.injEq] at he
   obtain ⟨rfl,rfl⟩:=he
   exact op_mup hI hE hop hm hk hx hT hu
  ·cases hc
 | panic x =>
  simp only [cOp,hop,Option.some.injEq] at hc
  subst hc
  simp [opE] at h
 | makeInterface t x =>
  simp only [cOp,hop,Option.some.injEq] at hc
  subst hc
  simp [opE] at h
 | call c => exact snd_builtin hI hE hop hc h
 | _ => simp only [cOp,hop] at hc; cases hc
end
end Go.Am
