/- Parts of the proofs of the statement, joined and made short: AmFrame AmFrame2 AmCode AmFrame3. -/
import Derived.Test.YtmoibjjpfemgjaaGreatDoorP13
import Derived.Test.YtmoibjjpfemgjaaGreatDoorP2
import Derived.Orders
set_option linter.unusedVariables false
set_option linter.unusedSimpArgs false
set_option linter.unusedSectionVars false
namespace Go.Am
variable [Glob]
section
variable {g g':Nat→AVal} {ρ ρ':Look}
theorem zba7:∀{x:AX},(∀t∈x.slots,g' t=g t)→evX g' x=evX g x
 |.t n,h=>h n (by simp[AX.slots])
 |.c v,_=>rfl
theorem evXs_congr:∀{xs:List AX},(∀t∈AX.slotsL xs,g' t=g t)→xs.map (evX g')=xs.map (evX g)
 |[],_=>rfl
 |x::r,h=>by
  simp only[AX.slotsL,List.mem_append,or_imp,forall_and]at h;rw[List.map_cons,List.map_cons,zba7 h.1,evXs_congr h.2]
theorem pairs_congr {args:List (AX×Bool)} (h:∀t∈AX.slotsL (args.map (·.1)),g' t=g t):(args.map fun p=>(evX g' p.1,p.2))=(args.map fun p=>(evX g p.1,p.2)):=by
 induction args with
 |nil=>rfl
 |cons p r ih=>
  simp only[List.map_cons,AX.slotsL,List.mem_append,or_imp,forall_and]at h;rw[List.map_cons,List.map_cons,ih h.2,zba7 h.1]
theorem parts_congr {ps:List (Nat×Nat×AX)} (h:∀t∈AX.slotsL (ps.map fun p=>p.2.2),g' t=g t):(ps.map fun p=>(p.1,p.2.1,evX g' p.2.2))=(ps.map fun p=>(p.1,p.2.1,evX g p.2.2)):=by
 induction ps with
 |nil=>rfl
 |cons p r ih=>
  simp only[List.map_cons,AX.slotsL,List.mem_append,or_imp,forall_and]at h;rw[List.map_cons,List.map_cons,ih h.2,zba7 h.1]
theorem opE_slots (site:Nat) {k:AK} (ρ:Look) (h:∀t∈k.slots,g' t=g t):opE site k g' ρ=opE site k g ρ:=by
 cases k with
 |mv x=>simp only[opE,zba7 h]
 |mvNil md sz=>rfl
 |pick c a b=>
  simp only[AK.slots,List.mem_append,or_imp,forall_and]at h;simp only[opE,zba7 h.1.1,zba7 h.1.2,zba7 h.2]
 |nilChk x=>simp only[opE,zba7 h]
 |bin bk op x y=>
  simp only[AK.slots,List.mem_append,or_imp,forall_and]at h;simp only[opE,zba7 h.1,zba7 h.2]
 |un op x=>simp only[opE,zba7 h]
 |cvt k x=>simp only[opE,zba7 h]
 |b2s x=>simp only[opE,zba7 h]
 |fAddr off x=>simp only[opE,zba7 h]
 |fld off n agg x=>simp only[opE,zba7 h]
 |iAddr sz x i=>
  simp only[AK.slots,List.mem_append,or_imp,forall_and]at h;simp only[opE,zba7 h.1,zba7 h.2]
 |iAddrA n sz x i=>
  simp only[AK.slots,List.mem_append,or_imp,forall_and]at h;simp only[opE,zba7 h.1,zba7 h.2]
 |idx n sz agg x i=>
  simp only[AK.slots,List.mem_append,or_imp,forall_and]at h;simp only[opE,zba7 h.1,zba7 h.2]
 |idxS x i=>
  simp only[AK.slots,List.mem_append,or_imp,forall_and]at h;simp only[opE,zba7 h.1,zba7 h.2]
 |ext i x=>simp only[opE,zba7 h]
 |len str x=>simp only[opE,zba7 h]
 |mm isMax x r=>
  simp only[AK.slots,List.mem_append,or_imp,forall_and]at h;simp only[opE,zba7 h.1,evXs_congr h.2]
 |bld zero parts=>simp only[opE,parts_congr h]
 |bldS md sz xs=>simp only[opE,evXs_congr h]
 |box n x=>simp only[opE,zba7 h]
 |alc zero=>rfl
 |ld n agg a=>simp only[opE,zba7 h]
 |st mv n a v=>
  simp only[AK.slots,List.mem_append,or_imp,forall_and]at h;simp only[opE,zba7 h.1,zba7 h.2]
 |mk md sz bytes zero l c=>
  simp only[AK.slots,List.mem_append,or_imp,forall_and]at h;simp only[opE,zba7 h.1,zba7 h.2]
 |slc str sz x lo hi=>
  simp only[AK.slots,List.mem_append,or_imp,forall_and]at h;obtain⟨⟨h1,h2⟩,h3⟩:=h;cases lo with
  |none=>
   cases hi with
   |none=>simp only[opE,zba7 h1]
   |some y=>
    have h3':∀t∈y.slots,g' t=g t:=by simpa[AX.slotsL]using h3
    simp only[opE,zba7 h1,zba7 h3']
  |some x'=>
   have h2':∀t∈x'.slots,g' t=g t:=by simpa[AX.slotsL]using h2
   cases hi with
   |none=>simp only[opE,zba7 h1,zba7 h2']
   |some y=>
    have h3':∀t∈y.slots,g' t=g t:=by simpa[AX.slotsL]using h3
    simp only[opE,zba7 h1,zba7 h2',zba7 h3']
 |app md sz bytes x y=>
  simp only[AK.slots,List.mem_append,or_imp,forall_and]at h;simp only[opE,zba7 h.1,zba7 h.2]
 |cpy sz x y=>
  simp only[AK.slots,List.mem_append,or_imp,forall_and]at h;simp only[opE,zba7 h.1,zba7 h.2]
 |clr zero x=>simp only[opE,zba7 h]
 |mkf f caps=>simp only[opE,evXs_congr h]
 |slc0 x l h' m=>
  simp only[AK.slots,List.mem_append,or_imp,forall_and]at h;simp only[opE,zba7 h.1.1.1,zba7 h.1.1.2,zba7 h.1.2,zba7 h.2]
 |slc3 sz x l h' m=>
  simp only[AK.slots,List.mem_append,or_imp,forall_and]at h;simp only[opE,zba7 h.1.1.1,zba7 h.1.1.2,zba7 h.1.2,zba7 h.2]
 |capK x=>simp only[opE,zba7 h]
 |appZ sz bytes zero x y=>
  simp only[AK.slots,List.mem_append,or_imp,forall_and]at h;simp only[opE,zba7 h.1,zba7 h.2]
 |dead=>rfl
 |mkMap=>rfl
 |lkp ag sh zero ok m k=>
  simp only[AK.slots,List.mem_append,or_imp,forall_and]at h;simp only[opE,zba7 h.1,zba7 h.2]
 |mup ag sh m k v=>
  simp only[AK.slots,List.mem_append,or_imp,forall_and]at h;simp only[opE,zba7 h.1.1,zba7 h.1.2,zba7 h.2]
 |lenM m=>simp only[opE,zba7 h]
 |call f args scalar=>rfl
 |callV x args scalar=>rfl
theorem elemsOf_congr {sz:Nat} {v:AVal} (h:∀i∈v.ids,ρ' i=ρ i):elemsOf ρ' sz v=elemsOf ρ sz v:=by
 cases v with
 |rsl id ver sz' off len=>simp only[elemsOf,h id (by simp[AVal.ids])]
 |dat d=>cases d<;>rfl
 |_=>rfl
theorem rsrcOf_congr {sz:Nat} {v:AVal} (h:∀i∈v.ids,ρ' i=ρ i):rsrcOf ρ' sz v=rsrcOf ρ sz v:=by
 cases v with
 |rsl id ver sz' off len=>simp only[rsrcOf,h id (by simp[AVal.ids])]
 |_=>rfl
theorem srcOf_congr {sz:Nat} {v:AVal} (h:∀i∈v.ids,ρ' i=ρ i):srcOf ρ' sz v=srcOf ρ sz v:=by
 cases v with
 |dat d=>cases d<;>rfl
 |rsl id ver sz' off len=>
  simp only[srcOf];exact elemsOf_congr h
 |_=>rfl
theorem zye7 {v:AVal} (h:∀i∈v.ids,ρ' i=ρ i):zpb7 ρ' v=zpb7 ρ v:=by
 cases v with
 |rsl id ver sz' off len=>simp only[zpb7,h id (by simp[AVal.ids])]
 |_=>rfl
theorem zlf7:∀{l:List AVal},(∀i∈AVal.idsL l,ρ' i=ρ i)→zqa7 ρ' l=zqa7 ρ l
 |[],_=>rfl
 |v::r,h=>by
  simp only[AVal.idsL,List.mem_append,or_imp,forall_and]at h;simp only[zqa7,zye7 h.1,zlf7 h.2]
theorem dec_congr {v:AVal} (h:∀i∈v.ids,ρ' i=ρ i):dec ρ' v=dec ρ v:=by
 cases v with
 |agg l=>simp only[dec,zlf7 (l:=l) h]
 |rsl id ver sz off len=>simp only[dec];exact zye7 h
 |_=>rfl
theorem decAll_congr:∀{l:List AVal},(∀i∈AVal.idsL l,ρ' i=ρ i)→decAll ρ' l=decAll ρ l
 |[],_=>rfl
 |v::r,h=>by
  simp only[AVal.idsL,List.mem_append,or_imp,forall_and]at h;simp only[decAll,dec_congr h.1,decAll_congr h.2]
theorem decLeaf_fs {v:AVal} {d:Dat} {fs:List Id} (h:zpb7 ρ v=some (d,fs)):∀i∈fs,i∈v.ids:=by
 cases v with
 |rsl id ver sz off len=>
  simp only[zpb7]at h;split at h
  ·split at h
   ·simp only[Option.some.injEq,Prod.mk.injEq]at h;obtain⟨rfl,rfl⟩:=h;intro i hi;simpa[AVal.ids]using hi
   ·cases h
  ·cases h
 |dat d'=>simp[zpb7]at h;simp[h.2]
 |nils=>simp[zpb7]at h;simp[h.2]
 |emp t=>simp[zpb7]at h;simp[h.2]
 |cap0=>simp[zpb7]at h;simp[h.2]
 |fsl l=>simp[zpb7]at h;simp[h.2]
 |_=>simp[zpb7]at h
theorem decLeaves_fs:∀{l:List AVal} {ds:List Dat} {fs:List Id},zqa7 ρ l=some (ds,fs)→∀i∈fs,i∈AVal.idsL l
 |[],ds,fs,h=>by simp[zqa7]at h;simp[h.2]
 |v::r,ds,fs,h=>by
  simp only[zqa7]at h;split at h
  ·rename_i d f ds' fs' h1 h2;split at h
   ·cases h
   ·simp only[Option.some.injEq,Prod.mk.injEq]at h;obtain⟨rfl,rfl⟩:=h;intro i hi;simp only[List.mem_append,AVal.idsL]at hi ⊢;exact orMap hi (decLeaf_fs h1 i) (decLeaves_fs h2 i)
  ·cases h
theorem dec_fs {v:AVal} {d:Dat} {fs:List Id} (h:dec ρ v=some (d,fs)):∀i∈fs,i∈v.ids:=by
 cases v with
 |agg l=>
  simp only[dec]at h;split at h
  ·rename_i ds fs' h1;simp only[Option.some.injEq,Prod.mk.injEq]at h;obtain⟨rfl,rfl⟩:=h;exact decLeaves_fs h1
  ·cases h
 |_=>simp only[dec]at h;exact decLeaf_fs h
theorem decAll_fs:∀{l:List AVal} {ds:List Dat} {fs:List Id},decAll ρ l=some (ds,fs)→∀i∈fs,i∈AVal.idsL l
 |[],ds,fs,h=>by simp[decAll]at h;simp[h.2]
 |v::r,ds,fs,h=>by
  simp only[decAll]at h;split at h
  ·rename_i d f ds' fs' h1 h2;simp only[Option.some.injEq,Prod.mk.injEq]at h;obtain⟨rfl,rfl⟩:=h;intro i hi;simp only[List.mem_append,AVal.idsL]at hi ⊢;exact orMap hi (dec_fs h1 i) (decAll_fs h2 i)
  ·cases h
theorem zhf7:∀{fs:List Id},(∀i∈fs,ρ' i=ρ i)→frz ρ' fs=frz ρ fs
 |[],_=>rfl
 |id::r,h=>by
  simp only[frz,h id (by simp),zhf7 (fs:=r) (fun i hi=>h i (by simp[hi]))]
theorem loadE_congr {n:Nat} {agg:Bool} {v:AVal} (h:∀i∈v.ids,ρ' i=ρ i):loadE ρ' n agg v=loadE ρ n agg v:=by
 cases v with
 |ref id off=>simp only[loadE,h id (by simp[AVal.ids])]
 |eref id ver i off=>simp only[loadE,h id (by simp[AVal.ids])]
 |_=>rfl
theorem storeE_congr {n:Nat} {a v:AVal} (h:∀i∈a.ids,ρ' i=ρ i) (h':∀i∈v.ids,ρ' i=ρ i):storeE ρ' n a v=storeE ρ n a v:=by
 cases a with
 |ref id off=>simp only[storeE,h id (by simp[AVal.ids])]
 |eref id ver i off=>
  simp only[storeE,h id (by simp[AVal.ids]),dec_congr h'];cases hd:dec ρ v with
  |none=>rfl
  |some p=>
   obtain⟨d,fs⟩:=p;have e:=zhf7 (fs:=fs) (fun i hi=>h' i (dec_fs hd i hi));cases ρ id with
   |none=>rfl
   |some o=>
    cases o with
    |box cs=>rfl
    |rarr sz ver' es=>rfl
    |blk x=>rfl
    |arr sz ver' fz es=>
     cases fz with
     |true=>rfl
     |false=>
      cases he:es[i]? with
      |none=>simp only[he]
      |some x=>simp only[he,e]
 |_=>rfl
theorem lkpE_congr {ag:Bool} {sh:List Sh} {zero:List AVal} {ok:Bool} {m k:AVal} (h:∀i∈m.ids,ρ' i=ρ i):lkpE ρ' ag sh zero ok m k=lkpE ρ ag sh zero ok m k:=by
 cases m with
 |bref y id=>
  cases y with
  |true=>rfl
  |false=>cases hk:keyE ag sh k<;>cases hz:zrc7 zero<;>simp only[lkpE,hk,hz,h id (by simp[AVal.ids])]
 |_=>rfl
theorem lenME_congr {m:AVal} (h:∀i∈m.ids,ρ' i=ρ i):lenME ρ' m=lenME ρ m:=by
 cases m with
 |bref y id=>cases y<;>simp only[lenME,h id (by simp[AVal.ids])]
 |_=>rfl
theorem mupE_congr {ag:Bool} {sh:List Sh} {m k v:AVal} (h:∀i∈m.ids,ρ' i=ρ i) (h':∀i∈v.ids,ρ' i=ρ i):mupE ρ' ag sh m k v=mupE ρ ag sh m k v:=by
 cases m with
 |bref y id=>
  cases y with
  |true=>rfl
  |false=>
   cases hk:keyE ag sh k with
   |none=>simp only[mupE,hk]
   |some kd=>
    cases hd:dec ρ v with
    |none=>simp only[mupE,hk,dec_congr h',hd]
    |some p=>
     obtain⟨d,fs⟩:=p;have e:=zhf7 (fs:=fs) (fun i hi=>h' i (dec_fs hd i hi));simp only[mupE,hk,dec_congr h',hd,h id (by simp[AVal.ids]),e]
 |_=>rfl
theorem zja7 {i:Id} (h:ρ' i=ρ i):zwa7 ρ' i=zwa7 ρ i:=by simp only[zwa7,h]
end
end Go.Am

namespace Go.Am
variable [Glob]
section
variable {g:Nat→AVal} {ρ ρ':Look}
theorem opE_objs (site:Nat) {k:AK} {out:Out} (h:opE site k g ρ=some out) (hρ:∀i,i∈touch k g∨i∈out.2.map (·.1)→ρ' i=ρ i):opE site k g ρ'=some out:=by
 cases k with
 |mv x=>exact h
 |pick c a b=>exact h
 |nilChk x=>exact h
 |bin bk op x y=>exact h
 |un op x=>exact h
 |cvt k x=>exact h
 |fAddr off x=>exact h
 |fld off n agg x=>exact h
 |iAddr sz x i=>exact h
 |iAddrA n sz x i=>exact h
 |idx n sz agg x i=>exact h
 |idxS x i=>exact h
 |ext i x=>exact h
 |len str x=>exact h
 |mm isMax x r=>exact h
 |bld zero parts=>exact h
 |slc str sz x lo hi=>exact h
 |mvNil md sz=>
  simp only[opE]at h ⊢;split at h
  ·cases h
  ·rename_i nv hnv
   have key:(nid site)∈out.2.map (·.1):=by
    cases md with
    |o=>
     simp only at h;split at h
     ·cases h;simp
     ·cases h
    |r=>
     simp only at h;split at h
     ·cases h;simp
     ·cases h
    |d=>cases h
    |f=>cases h
   rw[zja7 (hρ _ (.inr key)),hnv];exact h
 |b2s x=>
  simp only[opE]at h ⊢;rw[elemsOf_congr fun i hi=>hρ i (.inl hi)];exact h
 |bldS md sz xs=>
  simp only[opE]at h ⊢;have ht:∀i∈AVal.idsL (xs.map (evX g)),ρ' i=ρ i:=fun i hi=>hρ i (.inl hi)
  cases md with
  |r=>exact h
  |d=>
   simp only at h ⊢;rw[decAll_congr ht];split at h
   ·rename_i ds fs hd;simp only[zhf7 (fs:=fs) fun i hi=>ht i (decAll_fs hd i hi)];exact h
   ·cases h
  |o=>
   simp only at h ⊢;rw[decAll_congr ht];split at h
   ·rename_i ds fs hd;split at h
    ·rename_i hw;rw[if_pos hw];split at h
     ·rename_i nv hnv;split at h
      ·rename_i hc
       have key:ρ' (nid site)=ρ (nid site):=by
        refine hρ _ (.inr ?_);simp only[Option.some.injEq]at h;subst h;simp
       rw[zja7 key,hnv];simp only[zhf7 (fs:=fs) fun i hi=>ht i (decAll_fs hd i hi)];rw[if_pos hc];exact h
      ·cases h
     ·cases h
    ·cases h
   ·cases h
  |f=>
   simp only at h ⊢;split at h
   ·rename_i h0;rw[if_pos h0];exact h
   ·rename_i h0;rw[if_neg h0];split at h
    ·rename_i nv hnv;split at h
     ·rename_i hc
      have key:ρ' (nid site)=ρ (nid site):=by
       refine hρ _ (.inr ?_);simp only[Option.some.injEq]at h;subst h;simp
      rw[zja7 key,hnv];simp only;rw[if_pos hc];exact h
     ·cases h
    ·cases h
 |box n x=>
  simp only[opE]at h ⊢;split at h
  ·cases h
  ·rename_i hn;split at h
   ·rename_i hc
    have key:ρ' (nid site)=ρ (nid site):=by
     refine hρ _ (.inr ?_);simp only[Option.some.injEq]at h;subst h;simp
    rw[key,hn];simp only;rw[if_pos hc];exact h
   ·cases h
 |alc zero=>
  simp only[opE]at h ⊢;split at h
  ·cases h
  ·rename_i hn
   have key:ρ' (nid site)=ρ (nid site):=by
    refine hρ _ (.inr ?_);simp only[Option.some.injEq]at h;subst h;simp
   rw[key,hn];exact h
 |mkMap=>
  simp only[opE]at h ⊢;split at h
  ·cases h
  ·rename_i hn
   have key:ρ' (nid site)=ρ (nid site):=by
    refine hρ _ (.inr ?_);simp only[Option.some.injEq]at h;subst h;simp
   rw[key,hn];exact h
 |lkp ag sh zero ok m k=>
  simp only[opE]at h ⊢;rw[lkpE_congr fun i hi=>hρ i (.inl hi)];exact h
 |mup ag sh m k v=>
  simp only[opE]at h ⊢;rw[mupE_congr (fun i hi=>hρ i (.inl (List.mem_append.2 (.inl hi)))) (fun i hi=>hρ i (.inl (List.mem_append.2 (.inr hi))))];exact h
 |lenM m=>
  simp only[opE]at h ⊢;rw[lenME_congr fun i hi=>hρ i (.inl hi)];exact h
 |ld n agg a=>
  simp only[opE]at h ⊢;rw[loadE_congr fun i hi=>hρ i (.inl hi)];exact h
 |st mv n a v=>
  simp only[opE]at h ⊢;rw[storeE_congr (fun i hi=>hρ i (.inl (List.mem_append.2 (.inl hi)))) (fun i hi=>hρ i (.inl (List.mem_append.2 (.inr hi))))];exact h
 |mk md sz bytes zero l c=>
  simp only[opE]at h ⊢;split at h
  ·rename_i l' c' hl hc;split at h
   ·rename_i hb
    try simp only[hl,hc]
    rw[if_pos hb];cases md with
    |r=>
     simp only at h ⊢;split at h
     ·rename_i nv hnv;split at h
      ·rename_i hz
       have key:ρ' (nid site)=ρ (nid site):=by
        refine hρ _ (.inr ?_);simp only[Option.some.injEq]at h;subst h;simp
       simp only[zja7 key,hnv];rw[if_pos hz];exact h
      ·cases h
     ·cases h
    |d=>exact h
    |o=>
     simp only at h ⊢;split at h
     ·rename_i z hz
      try simp only[hz]
      split at h
      ·rename_i hw;rw[if_pos hw];split at h
       ·cases h
       ·rename_i nv hnv
        have key:ρ' (nid site)=ρ (nid site):=by
         refine hρ _ (.inr ?_);simp only[Option.some.injEq]at h;subst h;simp
        simp only[zja7 key,hnv];exact h
      ·cases h
     ·cases h
    |f=>
     simp only at h ⊢;split at h
     ·rename_i z hz
      try simp only[hz]
      split at h
      ·rename_i hw;rw[if_pos hw];split at h
       ·cases h
       ·rename_i nv hnv
        have key:ρ' (nid site)=ρ (nid site):=by
         refine hρ _ (.inr ?_);simp only[Option.some.injEq]at h;subst h;simp
        simp only[zja7 key,hnv];exact h
      ·cases h
     ·cases h
   ·cases h
  ·cases h
 |app md sz bytes x y=>
  have hx:∀i∈(evX g x).ids,ρ' i=ρ i:=fun i hi=>hρ i (.inl (List.mem_append.2 (.inl hi)))
  have hy:∀i∈(evX g y).ids,ρ' i=ρ i:=fun i hi=>hρ i (.inl (List.mem_append.2 (.inr hi)))
  simp only[opE]at h ⊢;rw[srcOf_congr hy,rsrcOf_congr hy];split at h
  ·rename_i id ver sz' off len hv
   try simp only[hv]
   rw[hx id (by simp[hv,AVal.ids])];exact h
  ·rename_i hv
   try simp only[hv]
   cases md with
   |r=>
    simp only at h ⊢;split at h
    ·rename_i ds hw
     try simp only[hw]
     split at h
     ·rename_i hd;rw[if_pos hd];exact h
     ·rename_i hd;rw[if_neg hd];split at h
      ·rename_i nv hnv;split at h
       ·rename_i hc
        have key:ρ' (nid site)=ρ (nid site):=by
         refine hρ _ (.inr ?_);simp only[Option.some.injEq]at h;subst h;simp
        simp only[zja7 key,hnv];rw[if_pos hc];exact h
       ·cases h
      ·cases h
    ·cases h
   |d=>
    simp only at h ⊢;split at h
    ·rename_i ds hw
     try simp only[hw]
     split at h
     ·rename_i hd;rw[if_pos hd];exact h
     ·rename_i hd;rw[if_neg hd];split at h
      ·rename_i nv hnv;split at h
       ·rename_i hc
        have key:ρ' (nid site)=ρ (nid site):=by
         refine hρ _ (.inr ?_);simp only[Option.some.injEq]at h;subst h;simp
        simp only[zja7 key,hnv];rw[if_pos hc];exact h
       ·cases h
      ·cases h
    ·cases h
   |o=>
    simp only at h ⊢;split at h
    ·rename_i ds hw
     try simp only[hw]
     split at h
     ·rename_i hd;rw[if_pos hd];exact h
     ·rename_i hd;rw[if_neg hd];split at h
      ·rename_i nv hnv;split at h
       ·rename_i hc
        have key:ρ' (nid site)=ρ (nid site):=by
         refine hρ _ (.inr ?_);simp only[Option.some.injEq]at h;subst h;simp
        simp only[zja7 key,hnv];rw[if_pos hc];exact h
       ·cases h
      ·cases h
    ·cases h
   |f=>
    simp only at h ⊢;split at h
    ·rename_i ds hw
     try simp only[hw]
     split at h
     ·rename_i hd;rw[if_pos hd];exact h
     ·rename_i hd;rw[if_neg hd];split at h
      ·rename_i nv hnv;split at h
       ·rename_i hc
        have key:ρ' (nid site)=ρ (nid site):=by
         refine hρ _ (.inr ?_);simp only[Option.some.injEq]at h;subst h;simp
        simp only[zja7 key,hnv];rw[if_pos hc];exact h
       ·cases h
      ·cases h
    ·cases h
  ·rename_i hv
   try simp only[hv]
   cases md with
   |r=>
    simp only at h ⊢;split at h
    ·rename_i ds hw
     try simp only[hw]
     split at h
     ·rename_i hd;rw[if_pos hd];exact h
     ·rename_i hd;rw[if_neg hd];split at h
      ·rename_i nv hnv;split at h
       ·rename_i hc
        have key:ρ' (nid site)=ρ (nid site):=by
         refine hρ _ (.inr ?_);simp only[Option.some.injEq]at h;subst h;simp
        simp only[zja7 key,hnv];rw[if_pos hc];exact h
       ·cases h
      ·cases h
    ·cases h
   |d=>
    simp only at h ⊢;split at h
    ·rename_i ds hw
     try simp only[hw]
     split at h
     ·rename_i hd;rw[if_pos hd];exact h
     ·rename_i hd;rw[if_neg hd];split at h
      ·rename_i nv hnv;split at h
       ·rename_i hc
        have key:ρ' (nid site)=ρ (nid site):=by
         refine hρ _ (.inr ?_);simp only[Option.some.injEq]at h;subst h;simp
        simp only[zja7 key,hnv];rw[if_pos hc];exact h
       ·cases h
      ·cases h
    ·cases h
   |o=>
    simp only at h ⊢;split at h
    ·rename_i ds hw
     try simp only[hw]
     split at h
     ·rename_i hd;rw[if_pos hd];exact h
     ·rename_i hd;rw[if_neg hd];split at h
      ·rename_i nv hnv;split at h
       ·rename_i hc
        have key:ρ' (nid site)=ρ (nid site):=by
         refine hρ _ (.inr ?_);simp only[Option.some.injEq]at h;subst h;simp
        simp only[zja7 key,hnv];rw[if_pos hc];exact h
       ·cases h
      ·cases h
    ·cases h
   |f=>
    simp only at h ⊢;split at h
    ·rename_i ds hw
     try simp only[hw]
     split at h
     ·rename_i hd;rw[if_pos hd];exact h
     ·rename_i hd;rw[if_neg hd];split at h
      ·rename_i nv hnv;split at h
       ·rename_i hc
        have key:ρ' (nid site)=ρ (nid site):=by
         refine hρ _ (.inr ?_);simp only[Option.some.injEq]at h;subst h;simp
        simp only[zja7 key,hnv];rw[if_pos hc];exact h
       ·cases h
      ·cases h
    ·cases h
  ·rename_i l hv
   try simp only[hv]
   split at h
   ·rename_i ds nv hw hnv;split at h
    ·rename_i hc
     have key:ρ' (nid site)=ρ (nid site):=by
      refine hρ _ (.inr ?_);simp only[Option.some.injEq]at h;subst h;simp
     simp only[hw,zja7 key,hnv];rw[if_pos hc];exact h
    ·cases h
   ·cases h
  ·cases h
 |cpy sz x y=>
  have hx:∀i∈(evX g x).ids,ρ' i=ρ i:=fun i hi=>hρ i (.inl (List.mem_append.2 (.inl hi)))
  have hy:∀i∈(evX g y).ids,ρ' i=ρ i:=fun i hi=>hρ i (.inl (List.mem_append.2 (.inr hi)))
  simp only[opE]at h ⊢;rw[srcOf_congr hy];split at h
  ·rename_i id ver sz' off len ds hv hs
   try simp only[hv,hs]
   rw[hx id (by simp[hv,AVal.ids])];exact h
  ·cases h
 |clr zero x=>
  have hx:∀i∈(evX g x).ids,ρ' i=ρ i:=fun i hi=>hρ i (.inl hi)
  simp only[opE]at h ⊢;split at h
  ·rename_i id ver sz off len z hv hz
   try simp only[hv,hz]
   rw[hx id (by simp[hv,AVal.ids])];exact h
  ·cases h
 |mkf f caps=>exact h
 |slc0 x l h' m=>exact h
 |capK x=>exact h
 |appZ sz bytes zero x y=>
  simp only[opE]at h ⊢;split at h
  ·rename_i hx
   try simp only[hx]
   split at h
   ·rename_i n z h1 h2
    try simp only[h1,h2]
    split at h
    ·rename_i hc;rw[if_pos hc];split at h
     ·rename_i nv hnv
      have key:ρ' (nid site)=ρ (nid site):=by
       refine hρ _ (.inr ?_);simp only[Option.some.injEq]at h;subst h;simp
      rw[zja7 key,hnv];exact h
     ·cases h
    ·cases h
   ·cases h
  ·cases h
 |slc3 sz x l h' m=>
  have hx:∀i∈(evX g x).ids,ρ' i=ρ i:=fun i hi=>hρ i (.inl hi)
  simp only[opE]at h ⊢;split at h
  ·rename_i l1 h1 m1 e1 e2 e3
   try simp only[e1,e2,e3]
   rw[zye7 hx];split at h
   ·rename_i ds ids hd
    try simp only[hd]
    rw[zhf7 (fs:=ids) fun i hi=>hx i (decLeaf_fs hd i hi)];exact h
   ·cases h
  ·cases h
 |dead=>exact h
 |call f args scalar=>exact h
 |callV x args scalar=>exact h
theorem opE_quiet (site:Nat) {k:AK} {out:Out} (h:opE site k g ρ=some out) (hk:k.kind≠2):out.2=[]:=by
 obtain⟨v,upd⟩:=out
 have mp:∀{α:Type} {x:Option α} {f:α→AVal},(x.map fun a=>(f a,([]:List (Id×Obj))))=some (v,upd)→upd=[]:=by
  intro α x f hx;cases x with
  |none=>cases hx
  |some a=>simp only[Option.map_some,Option.some.injEq,Prod.mk.injEq]at hx;exact hx.2.symm
 have sm:∀{u:AVal},some (u,([]:List (Id×Obj)))=some (v,upd)→upd=[]:=by
  intro u hx;simp only[Option.some.injEq,Prod.mk.injEq]at hx;exact hx.2.symm
 cases k with
 |mv x=>exact sm h
 |mvNil md sz=>simp[AK.kind]at hk
 |pick c a b=>
  simp only[opE]at h;split at h
  ·exact sm h
  ·cases h
 |nilChk x=>
  simp only[opE]at h;split at h<;>first|exact sm h|cases h
 |bin bk op x y=>exact mp h
 |un op x=>exact mp h
 |cvt k x=>
  simp only[opE]at h;split at h
  ·exact sm h
  ·cases h
 |b2s x=>
  simp only[opE]at h;split at h
  ·split at h
   ·exact sm h
   ·cases h
  ·cases h
 |fAddr off x=>exact mp h
 |fld off n agg x=>exact mp h
 |iAddr sz x i=>
  simp only[opE]at h;split at h
  ·exact mp h
  ·cases h
 |iAddrA n sz x i=>
  simp only[opE]at h;split at h
  ·split at h
   ·exact mp h
   ·cases h
  ·cases h
 |idx n sz agg x i=>
  simp only[opE]at h;split at h
  ·split at h
   ·exact mp h
   ·cases h
  ·cases h
 |idxS x i=>
  simp only[opE]at h;split at h
  ·split at h
   ·exact mp h
   ·cases h
  ·cases h
 |ext i x=>
  simp only[opE]at h;split at h
  ·exact mp h
  ·cases h
 |len str x=>exact mp h
 |mm isMax x r=>exact mp h
 |bld zero parts=>exact mp h
 |bldS md sz xs=>
  simp only[AK.kind]at hk;split at hk
  ·rename_i e;subst e;simp only[opE]at h;split at h
   ·exact sm h
   ·cases h
  ·exact absurd rfl hk
 |box n x=>simp[AK.kind]at hk
 |alc zero=>simp[AK.kind]at hk
 |ld n agg a=>exact mp h
 |st mv n a v=>simp[AK.kind]at hk
 |mk md sz bytes zero l c=>
  simp only[AK.kind]at hk;split at hk
  ·rename_i e;subst e;simp only[opE]at h;split at h
   ·split at h
    ·split at h
     ·split at h
      ·exact sm h
      ·cases h
     ·cases h
    ·cases h
   ·cases h
  ·exact absurd rfl hk
 |slc str sz x lo hi=>
  simp only[opE]at h;split at h
  ·exact mp h
  ·cases h
 |app md sz bytes x y=>simp[AK.kind]at hk
 |cpy sz x y=>simp[AK.kind]at hk
 |clr zero x=>simp[AK.kind]at hk
 |mkf f caps=>exact sm h
 |capK x=>exact mp h
 |appZ sz bytes zero x y=>simp[AK.kind]at hk
 |slc3 sz x l h' m=>simp[AK.kind]at hk
 |slc0 x l h' m=>
  simp only[opE]at h;split at h
  ·exact mp h
  ·cases h
 |dead=>cases h
 |mkMap=>simp[AK.kind]at hk
 |lkp ag sh zero ok m k=>exact mp h
 |mup ag sh m k v=>simp[AK.kind]at hk
 |lenM m=>exact mp h
 |call f args scalar=>simp[AK.kind]at hk
 |callV x args scalar=>simp[AK.kind]at hk
theorem opE_blind (site:Nat) {k:AK} (hk:k.kind=0):opE site k g ρ'=opE site k g ρ:=by
 cases k<;>first|rfl|(simp[AK.kind]at hk;done)|skip
 ·rename_i md sz xs;simp only[AK.kind]at hk;split at hk
  ·rename_i e;subst e;rfl
  ·cases hk
 ·rename_i md sz bytes zero l c;simp only[AK.kind]at hk;split at hk
  ·rename_i e;subst e;rfl
  ·cases hk
end
end Go.Am

namespace Go.Am
variable [Glob]
theorem gT_pT:∀(s:zsa7) (i:RId) (o:TObj) (j:RId),gT (pT s i o) j=if i=j then some o else gT s j
 |[],i,o,j=>by simp[pT,gT]
 |(i',o')::r,i,o,j=>by
  simp only[pT];split
  ·rename_i e;subst e;simp only[gT];split<;>rfl
  ·rename_i e;simp only[gT,gT_pT r i o j];by_cases h:i'=j
   ·subst h;rw[if_pos rfl,if_neg (fun x=>e x.symm),if_pos rfl]
   ·rw[if_neg h,if_neg h]
theorem gT_pTs:∀(upd:List (RId×TObj)) (s:zsa7),gT (pTs s upd)=updT (gT s) upd
 |[],s=>rfl
 |(i,o)::r,s=>by
  simp only[pTs,updT,gT_pTs r]
  congr 1
  funext j;exact gT_pT s i o j
theorem gE_putE (env:Env) (d:Option Nat) (v:AVal) (t:Nat):gE (putE env d v) t=if d=some t then v else gE env t:=by
 cases d with
 |none=>simp[putE]
 |some d=>simp[putE,gE]
def marks (ds:List Nat):List Deferred:=ds.map fun D=>{ target:=.collected D,args:=#[] }
def Base.dsOK (B:Base) (C0:Ctx):Prop:=∀D∈B.ds,B.w.heap[D]?=some (.deferred (some []))∧¬B.M D∧C0.w.heap.size≤D
structure Good (B:Base) (C0 C:Ctx) (n:Nat) (s:St) (a:Act):Prop where
 ρ:C.ρ=flat (gT s.objs)
 inv:Inv B C
 env:RepE C (gE s.env) a
 size:a.tmps.size=n
 ext:Ext (fun i=>i) (fun id=>id.1.1=0) C0 C
 defers:a.defers=marks B.ds
 ds:B.dsOK C0
 le:C0.w.heap.size≤B.w.heap.size∧B.ds.Nodup
theorem RepE.put {C C':Ctx} {g:Nat→AVal} {a:Act} (h:RepE C g a) (hg:Grow C C') {n:Nat} (hn:a.tmps.size=n) {d:Option Nat} (hd:d.all (·<n)=true) {v:AVal} {val:Value} (hv:RepA C' v val):
  RepE C' (fun t=>if d=some t then v else g t) (a.put d val):=by
 refine⟨fun t=>?_,h.glob.mono hg.F⟩;cases d with
 |none=>simpa[Act.put]using (h.env t).grow hg
 |some d=>
  simp only[Option.all_some,decide_eq_true_eq]at hd;by_cases e:d=t
  ·subst e;simp only[if_true,Act.put]
   have:(a.tmps.setIfInBounds d val).getD d undef=val:=by
    simp[Array.getD_eq_getD_getElem?,hn,hd]
   rw[this];exact hv
  ·have e':¬(some d=some t):=fun x=>e (Option.some.inj x)
   simp only[e',if_false,Act.put]
   have:(a.tmps.setIfInBounds d val).getD t undef=a.tmps.getD t undef:=by
    simp[Array.getD_eq_getD_getElem?,Array.getElem?_setIfInBounds_ne e]
   rw[this];exact (h.env t).grow hg
theorem Ext.thenGrow {C0 C C':Ctx} {D:Id→Prop} (h:Ext (fun i=>i) D C0 C) (hg:Grow C C'):Ext (fun i=>i) D C0 C':=by
 refine⟨fun b o v hv=>hg.F _ _ _ (h.F _ _ _ hv),fun id L hd hb=>hg.box id L trivial (h.box id L hd hb),fun id A hd ha=>?_,fun id b hd hb=>hg.blk id b trivial (h.blk id b hd hb)⟩;obtain⟨A',h1,h2,h3⟩:=h.arr id A hd ha;obtain⟨A'',h4,h5,h6⟩:=hg.arr id A' trivial h1;refine⟨A'',h4,Nat.le_trans h2 h5,fun e=>?_⟩;obtain⟨a1,a2,a3⟩:=h3 (by omega);obtain⟨b1,b2,b3⟩:=h6 (by omega);exact⟨by rw[b1,a1],by rw[b2,a2],by omega⟩
section
variable {P:Program} {B:Base} {C0:Ctx} {K:Orc} {n:Nat} {rd:Option Nat}
theorem cOp_noDefer {m:Mk} {o:Oper} {k:AK} (h:cOp P m o=some k):∀c,o.op≠.defer c:=by
 intro c e;simp[cOp,e]at h
theorem wpOp_sound (hS:zae7 P K) {ops:Array Oper} {Q:Exit→Act→World→Prop} {i:Nat} {o:Oper} (hi:ops[i]?=some o) {ms:List (Nat×Mk)} {k:AK} {gd:Option (Nat×Bool)} (hc:cOper P n ms ops.toList i o=some (k,gd)) {lg:Bool}
  {C:Ctx} {g:Nat→AVal} {a:Act} {T:TLook} (hI:Inv B C) (hρ:C.ρ=flat T) (hE:RepE C g a) (hn:a.tmps.size=n) {out:TOut} (h:aoE K ⟨o.dst,k,gd,lg⟩ g T=some out) {next:Act→World→Prop}
  (hnext:∀val C',C'.ρ=flat (updT T out.2)→Inv B C'→Grow C C'→RepE C' (fun t=>if o.dst=some t then out.1 else g t) (a.put o.dst val)→(a.put o.dst val).tmps.size=n→next (a.put o.dst val) C'.w):
  wpOpIn (fR rd) 0 P ops Q i next a C.w:=by
 unfold wpOpIn;simp only[hi];have hc0:=hc;unfold cOper at hc
 have hsize:∀val,(a.put o.dst val).tmps.size=n:=by
  intro val;cases o.dst<;>simp[Act.put,hn]
 have hdo:∀(hk:cOp P (mkOf ms i) o=some k),(o.dst.all (·<n))=true→opT K (o.dst.getD 0) k g T=some out→o.wpIn (fR rd) 0 P a C.w next Q:=by
  intro hk hd hop;have:=op_all (B:=B) hS hI hρ hE (v:=out.1) (us:=out.2) hk (by simpa using hop);refine this.wp (cOp_noDefer hk) fun val w' ⟨C',e1,e2,e3,e4,e5⟩=>?_
  subst e1;exact hnext val C' e2 e3 e4 (hE.put e4 hn hd e5) (hsize val)
 have hskip:out=(.tup [],[])→(o.dst.all (·<n))=true→next (a.put o.dst undef) C.w:=by
  intro e hd;subst e;refine hnext undef C hρ hI (Grow.refl C) (hE.put (Grow.refl C) hn hd ?_) (hsize undef);simp[RepA,RepL,undef]
 cases hgd:o.guard with
 |none=>
  rw[hgd]at hc;simp only at hc;split at hc
  ·rename_i k' g' hk hg;simp only[Option.some.injEq]at hg;subst hg;split at hc
   ·rename_i hd;simp only[Option.some.injEq,Prod.mk.injEq]at hc;obtain⟨rfl,rfl⟩:=hc;simp only[aoE]at h;have hw:Region.wanted o (yielded ops a.tmps)=true:=by simp[Region.wanted,hgd]
    simp only[hw,if_true];exact hdo hk hd h
   ·cases hc
  ·cases hc
 |some jw=>
  obtain⟨j,want⟩:=jw;rw[hgd]at hc;simp only at hc;split at hc
  ·rename_i k' g' hk hg;split at hg
   ·rename_i t ht;simp only[Option.some.injEq]at hg;subst hg;split at hc
    ·rename_i hd;simp only[Option.some.injEq,Prod.mk.injEq]at hc;obtain⟨rfl,rfl⟩:=hc;simp only[aoE]at h;have hht:((ops[j]?).bind (·.dst))=some t:=by simpa using ht
     have hy:∀v,a.tmps.getD t undef=v→yielded ops a.tmps j=match v with|.bool b=>some b|_=>none:=by
      intro v hv;unfold yielded;rw[hht];simp only[Option.bind_some];cases e:a.tmps[t]? with
      |none=>
       have:a.tmps.getD t undef=undef:=by simp[Array.getD_eq_getD_getElem?,e]
       rw[this]at hv;subst hv;rfl
      |some u=>
       have:a.tmps.getD t undef=u:=by simp[Array.getD_eq_getD_getElem?,e]
       rw[this]at hv;subst hv;cases u<;>rfl
     have hrt:=hE.env t;split at h
     ·rename_i b hb;rw[hb]at hrt;have hyb:=hy _ (rep_bool hrt);simp only at hyb;have hw:Region.wanted o (yielded ops a.tmps)=(b==want):=by simp[Region.wanted,hgd,hyb]
      rw[hw];split at h
      ·rename_i hbw;subst hbw;simp only[BEq.rfl,if_true];exact hdo hk hd h
      ·rename_i hbw;have:(b==want)=false:=by simpa using hbw
       rw[this];simp only[Option.some.injEq]at h;exact⟨fun _ _=>trivial,hskip h.symm hd⟩
     ·rename_i hb;rw[hb]at hrt;simp only[RepA,RepL]at hrt;obtain⟨cs,h1,h2⟩:=hrt;have hyb:=hy _ h1;simp only at hyb;have hw:Region.wanted o (yielded ops a.tmps)=false:=by simp[Region.wanted,hgd,hyb]
      rw[hw];simp only[Option.some.injEq]at h;exact⟨fun _ _=>trivial,hskip h.symm hd⟩
     ·cases h
    ·cases hc
   ·cases hg
  ·cases hc
end
end Go.Am

namespace Go.Am
variable [Glob]
section
variable {g g':Nat→AVal} {T T':TLook}
theorem opT_slots (K:Orc) (site:Nat) {k:AK} (T:TLook) (h:∀t∈k.slots,g' t=g t):opT K site k g' T=opT K site k g T:=by
 have hf:flatE site k g' T=flatE site k g T:=by unfold flatE;rw[opE_slots site (flat T) h]
 unfold opT;split
 ·rw[pairs_congr (by simpa[AK.slots]using h)]
 ·simp only[AK.slots,List.mem_append,or_imp,forall_and]at h;rw[zba7 h.1,pairs_congr h.2]
 ·rename_i sz;rw[opE_slots (k:=.mvNil .r sz) site (flat T) (by simp[AK.slots])]
 ·rename_i sz bytes l c;rw[opE_slots (k:=.mk .r sz bytes [.nils] l c) site (flat T) (by simpa[AK.slots]using h)]
 ·simp only[AK.slots,List.mem_append,or_imp,forall_and]at h;rw[zba7 h.1,zba7 h.2]
 ·rw[opE_slots (k:=.mkMap true) site (flat T) (by simp[AK.slots])]
 ·have h0:=h;simp only[AK.slots,List.mem_append,or_imp,forall_and]at h;rw[zba7 h.1.1,zba7 h.1.2,zba7 h.2,hf]
 ·have h0:=h;simp only[AK.slots,List.mem_append,or_imp,forall_and]at h;rw[zba7 h.1,zba7 h.2,hf]
 ·exact hf
theorem zbe7:∀{us:List (RId×TObj)} {T T':TLook} {r:RId},T' r=T r→updT T' us r=updT T us r
 |[],T,T',r,h=>h
 |(i,o)::us,T,T',r,h=>by
  simp only[updT];exact zbe7 (by by_cases e:i=r<;>simp[e,h])
theorem decT_congr {v:AVal} (h:∀i∈v.ids,T' i.1=T i.1):decT T' v=decT T v:=by
 cases v with
 |rsl id ver sz off len=>
  obtain⟨r,i,j⟩:=id;simp only[decT,h (r,i,j) (by simp[AVal.ids])]
 |_=>rfl
theorem decLsT_congr:∀{l:List AVal} {T T':TLook},(∀i∈AVal.idsL l,T' i.1=T i.1)→decLsT T' l=decLsT T l
 |[],T,T',_=>rfl
 |v::r,T,T',h=>by
  simp only[AVal.idsL,List.mem_append,or_imp,forall_and]at h;simp only[decLsT,decT_congr h.1];cases decT T v with
  |none=>rfl
  |some p=>
   obtain⟨d,us⟩:=p;simp only[decLsT_congr (l:=r) (T:=updT T us) (T':=updT T' us) fun i hi=>zbe7 (h.2 i hi)]
theorem decV_congr {v:AVal} (h:∀i∈v.ids,T' i.1=T i.1):decV T' v=decV T v:=by
 cases v with
 |agg l=>simp only[decV];rw[decLsT_congr (by simpa[AVal.ids]using h)]
 |_=>exact decT_congr h
theorem argsT_congr:∀{l:List (AVal×Bool)} {T T':TLook},(∀i∈AVal.idsL (l.map (·.1)),T' i.1=T i.1)→argsT T' l=argsT T l
 |[],T,T',_=>rfl
 |(v,true)::r,T,T',h=>by
  simp only[List.map_cons,AVal.idsL,List.mem_append,or_imp,forall_and]at h;simp only[argsT,argsT_congr h.2]
 |(v,false)::r,T,T',h=>by
  simp only[List.map_cons,AVal.idsL,List.mem_append,or_imp,forall_and]at h;simp only[argsT,decV_congr h.1];cases decV T v with
  |none=>rfl
  |some p=>
   obtain⟨d,us⟩:=p;simp only[argsT_congr (l:=r) (T:=updT T us) (T':=updT T' us) fun i hi=>zbe7 (h.2 i hi)]
theorem lift1_congr {id:Id} {o:Obj} (h:T' id.1=T id.1):lift1 T' id o=lift1 T id o:=by simp only[lift1,h]
theorem lift1_key {id:Id} {o:Obj} {u:RId×TObj} (h:lift1 T id o=some u):u.1=id.1:=by
 unfold lift1 at h;split at h
 ·split at h
  ·split at h
   ·split at h
    ·simp only[Option.some.injEq]at h;rw[←h]
    ·cases h
   ·cases h
  ·cases h
 ·cases h
 ·split at h
  ·simp only[Option.some.injEq]at h;rw[←h]
  ·cases h
theorem liftX_congr:∀{upd:List (Id×Obj)} {T T':TLook},(∀i∈upd.map (·.1),T' i.1=T i.1)→liftX T' upd=liftX T upd
 |[],T,T',_=>rfl
 |(id,o)::r,T,T',h=>by
  simp only[List.map_cons,List.mem_cons,forall_eq_or_imp]at h;simp only[liftX,lift1_congr h.1];cases lift1 T id o with
  |none=>rfl
  |some u=>
   simp only;rw[liftX_congr (upd:=r) (T:=updT T [u]) (T':=updT T' [u]) fun i hi=>zbe7 (h.2 i hi)]
theorem liftX_keys:∀{upd:List (Id×Obj)} {T:TLook} {us:List (RId×TObj)},liftX T upd=some us→us.map (·.1)=upd.map (·.1.1)
 |[],T,us,h=>by simp only[liftX,Option.some.injEq]at h;simp[←h]
 |(id,o)::r,T,us,h=>by
  simp only[liftX]at h;split at h
  ·cases h
  ·rename_i u hu;split at h
   ·cases h
   ·rename_i us' hus;simp only[Option.some.injEq]at h;subst h;simp[liftX_keys hus,lift1_key hu]
theorem grown_congr {id:Id} {o:Obj} (h:T' id.1=T id.1):grown T' id o=grown T id o:=by simp only[grown,h]
theorem grown_key {id:Id} {o:Obj} {u:RId×TObj} (h:grown T id o=some u):u.1=id.1:=by
 unfold grown at h;split at h
 ·split at h
  ·split at h
   ·simp only[Option.some.injEq]at h;rw[←h]
   ·cases h
  ·cases h
 ·split at h
  ·split at h
   ·simp only[Option.some.injEq]at h;rw[←h]
   ·cases h
  ·cases h
 ·cases h
theorem lift_congr {upd:List (Id×Obj)} (h:∀i∈upd.map (·.1),T' i.1=T i.1):lift T' upd=lift T upd:=by
 match upd,h with
 |[],_=>rfl
 |[(id,o)],h=>
  have h1:T' id.1=T id.1:=h id (by simp);simp only[lift,grown_congr h1,liftX_congr h]
 |a::b::r,h=>simp only[lift,liftX_congr h]
theorem lift_keys {upd:List (Id×Obj)} {us:List (RId×TObj)} (h:lift T upd=some us):us.map (·.1)=upd.map (·.1.1):=by
 match upd,h with
 |[],h=>simp only[lift,Option.some.injEq]at h;simp[←h]
 |[(id,o)],h=>
  simp only[lift]at h;split at h
  ·rename_i u hu;simp only[Option.some.injEq]at h;subst h;simp[grown_key hu]
  ·exact liftX_keys h
 |a::b::r,h=>simp only[lift]at h;exact liftX_keys h
theorem flatE_objs (site:Nat) {k:AK} {out:TOut} (h:flatE site k g T=some out) (h1:∀r∈(touch k g).map (·.1),T' r=T r) (h2:∀r∈out.2.map (·.1),T' r=T r):flatE site k g T'=some out:=by
 unfold flatE at h ⊢;cases ho:opE site k g (flat T) with
 |none=>rw[ho]at h;cases h
 |some p=>
  obtain⟨v,upd⟩:=p;rw[ho]at h;simp only at h;cases hl:lift T upd with
  |none=>rw[hl]at h;cases h
  |some us=>
   rw[hl]at h;simp only[Option.some.injEq]at h;subst h;have hk:=lift_keys hl
   have hupd:∀i∈upd.map (·.1),T' i.1=T i.1:=by
    intro i hi;apply h2;simp only;rw[hk];obtain⟨p,hp,rfl⟩:=List.mem_map.1 hi;exact List.mem_map.2 ⟨p,hp,rfl⟩
   have:=opE_objs (ρ':=flat T') site ho (fun i hi=>by
    rcases hi with hi|hi
    ·exact zka7 (h1 _ (List.mem_map.2 ⟨i,hi,rfl⟩))
    ·exact zka7 (hupd i hi))
   rw[this];simp only;rw[lift_congr hupd,hl]
theorem zxc7 {r:RId} {pv i:Nat} {old:Option Cell} {mv:Bool} {v:AVal} (h:∀x∈v.ids,T' x.1=T x.1):cellIn T' r pv old i mv v=cellIn T r pv old i mv v:=by
 have hd:cellIn.data T' r old v=cellIn.data T r old v:=by unfold cellIn.data;rw[decT_congr h]
 unfold cellIn;split
 ·rename_i r2 i2 j2 ver sz off len;rw[h (r2,i2,j2) (by simp[AVal.ids])];rw[hd]
 ·exact hd
theorem newVer_flat {r:RId} (h:T' r=T r):zwa7 (flat T') (r,0,0)=zwa7 (flat T) (r,0,0):=zja7 (zka7 h)
theorem pvN_congr {r:RId} (h:T' r=T r):pvN T' r=pvN T r:=by simp only[pvN,h]
theorem callE_objs (K:Orc) (site:Nat) {f:FuncId} {args:List (AVal×Bool)} {sc:Bool} {out:TOut} (h:callE K site f args sc T=some out)
  (h1:∀r∈touchC args T,T' r=T r) (h2:∀r∈out.2.map (·.1),T' r=T r):callE K site f args sc T'=some out:=by
 unfold callE at h ⊢;have ht:∀i∈AVal.idsL (args.map (·.1)),T' i.1=T i.1:=fun i hi=>h1 _ (List.mem_append.2 (.inl (List.mem_map.2 ⟨i,hi,rfl⟩)))
 rw[argsT_congr ht];cases ha:argsT T args with
 |none=>rw[ha]at h;cases h
 |some p=>
  obtain⟨vs,us⟩:=p;rw[ha]at h;simp only at h ⊢;cases hcol:collect (updT T us) 64 (AVal.ridsL vs) []with
  |none=>rw[hcol]at h;cases h
  |some order=>
   rw[hcol]at h;have ho:∀i∈order,updT T' us i=updT T us i:=fun i hi=>zbe7 (h1 i (List.mem_append.2 (.inr (by simp only[ha,hcol];exact hi))))
   have hcc:∀(n:Nat) (todo done res:List RId),collect (updT T us) n todo done=some res→(∀i∈res,updT T' us i=updT T us i)→collect (updT T' us) n todo done=some res:=by
    have done':∀(n:Nat) (todo done res:List RId),collect (updT T us) n todo done=some res→∀i∈done,i∈res:=by
     intro n
     induction n with
     |zero=>intro todo done res h;simp[collect]at h
     |succ n ih=>
      intro todo done res h;cases todo with
      |nil=>simp only[collect,Option.some.injEq]at h;subst h;exact fun _ h=>h
      |cons id todo=>
       simp only[collect]at h;split at h
       ·exact ih _ _ _ h
       ·split at h
        ·cases h
        ·exact fun i hi=>ih _ _ _ h i (by simp[hi])
    intro n
    induction n with
    |zero=>intro todo done res h _;simp[collect]at h
    |succ n ih=>
     intro todo done res h hr;cases todo with
     |nil=>simpa only[collect]using h
     |cons id todo=>
      simp only[collect]at h ⊢;split at h
      ·rename_i hid;rw[if_pos hid];exact ih _ _ _ h hr
      ·rename_i hid;rw[if_neg hid];split at h
       ·cases h
       ·rename_i o ho;rw[hr id (done' _ _ _ _ h id (by simp)),ho];exact ih _ _ _ h hr
   have hgc:∀(l:List RId),(∀i∈l,updT T' us i=updT T us i)→gather (updT T' us) l=gather (updT T us) l:=by
    intro l
    induction l with
    |nil=>intro _;rfl
    |cons id r ih=>
     intro h;simp only[gather,h id (by simp),ih fun i hi=>h i (by simp[hi])]
   rw[hcc _ _ _ _ hcol ho];simp only at h ⊢;rw[hgc order ho];cases hg:gather (updT T us) order with
   |none=>rw[hg]at h;cases h
   |some os=>
    rw[hg]at h;simp only at h ⊢;cases hK:K f (AVal.trenL (toPos order) vs) (os.map (TObj.tren (toPos order))) with
    |none=>rw[hK]at h;cases h
    |some q=>
     obtain⟨v,os'⟩:=q;rw[hK]at h;simp only at h ⊢;split at h
     ·rename_i hsc;rw[if_pos hsc];exact h
     ·rename_i hsc;rw[if_neg hsc];split at h
      ·cases h
      ·rename_i hlen;rw[if_neg hlen];split at h
       ·cases h
       ·rename_i hfr;simp only[Option.some.injEq]at h
        have key:∀j,j<os'.length-order.length→updT T' us (site+1,j)=updT T us (site+1,j):=by
         intro j hj;refine zbe7 (h2 _ ?_);rw[←h];simp only[List.map_append,List.mem_append];right;rw[List.map_fst_zip (by simp)];refine List.mem_map.2 ⟨order.length+j,by simp;omega,?_⟩;have:order[order.length+j]?=none:=by simp
         simp[zdb7,this]
        have hfr':¬(List.range (os'.length-order.length)).any (fun j=>(updT T' us (site+1,j)).isSome)=true:=by
         intro hx;rw[List.any_eq_true]at hx;obtain⟨j,hj,hjs⟩:=hx;refine hfr (List.any_eq_true.2 ⟨j,hj,?_⟩);rw[←key j (by simpa using hj)];exact hjs
        rw[if_neg hfr',h]
theorem opT_objs (K:Orc) (site:Nat) {k:AK} {out:TOut} (h:opT K site k g T=some out) (hT:∀r,r∈zie7 k g T∨r∈out.2.map (·.1)→T' r=T r):opT K site k g T'=some out:=by
 have h2:∀r∈out.2.map (·.1),T' r=T r:=fun r hr=>hT r (.inr hr)
 unfold opT at h ⊢;split at h
 ·exact callE_objs K site h (fun r hr=>hT r (.inl hr)) h2
 ·rename_i x args sc
  try simp only at h ⊢
  split at h
  ·rename_i f caps hf
   try simp only[hf]
   by_cases hbig:BIGF≤f
   ·rw[if_pos hbig]at h ⊢;by_cases hne:f-BIGF=YID
    ·rw[if_pos hne]at h;cases h
    ·rw[if_neg hne]at h ⊢;refine callE_objs K site h (fun r hr=>hT r (.inl ?_)) h2;simp only[zie7,hf,if_pos hbig];exact hr
   ·rw[if_neg hbig]at h ⊢;by_cases hne:f=YID
    ·rw[if_pos hne]at h;cases h
    ·rw[if_neg hne]at h ⊢;refine callE_objs K site h (fun r hr=>hT r (.inl ?_)) h2;simp only[zie7,hf,if_neg hbig];exact hr
  ·rename_i id hf
   try simp only[hf]
   refine callE_objs K site h (fun r hr=>hT r (.inl ?_)) h2;simp only[zie7,hf];exact hr
  ·cases h
 ·rename_i sz
  try simp only at h ⊢
  split at h
  ·rename_i id nv sz1 off len upd hop;split at h
   ·rename_i hsz;simp only[Option.some.injEq]at h;subst h;have hs:T' (site+1,0)=T (site+1,0):=h2 _ (by simp);obtain⟨nv',q1,q2⟩:=opE_mvNil_r hop
    have:=opE_objs (ρ':=flat T') site hop (fun i hi=>by
     rcases hi with hi|hi
     ·simp[touch]at hi
     ·subst q2;simp at hi;subst hi;exact zka7 hs)
    rw[this];simp only;rw[if_pos hsz,pvN_congr hs]
   ·cases h
  ·cases h
 ·rename_i sz bytes l c
  try simp only at h ⊢
  split at h
  ·rename_i id nv sz1 off len upd hop;split at h
   ·rename_i hsz;simp only[Option.some.injEq]at h;subst h;have hs:T' (site+1,0)=T (site+1,0):=h2 _ (by simp);obtain⟨nv',n,q1,q2⟩:=opE_mk_r hop
    have:=opE_objs (ρ':=flat T') site hop (fun i hi=>by
     rcases hi with hi|hi
     ·simp[touch]at hi
     ·subst q2;simp at hi;subst hi;exact zka7 hs)
    rw[this];simp only;rw[if_pos hsz,pvN_congr hs]
   ·cases h
  ·cases h
 ·rename_i bytes x y;have hx:∀i∈(evX g x).ids,T' i.1=T i.1:=fun i hi=>hT _ (.inl (by simp only[zie7,touch,List.map_append,List.mem_append];exact .inl (List.mem_map.2 ⟨i,hi,rfl⟩)))
  have hy:∀i∈(evX g y).ids,T' i.1=T i.1:=fun i hi=>hT _ (.inl (by simp only[zie7,touch,List.map_append,List.mem_append];exact .inr (List.mem_map.2 ⟨i,hi,rfl⟩)))
  try simp only at h ⊢
  unfold appF at h ⊢;split at h
  ·rename_i w hw;have hw':∀i∈w.ids,T' i.1=T i.1:=fun i hi=>hy i (by rw[hw];simp[AVal.ids,AVal.idsL,hi])
   try simp only[hw]
   split at h
   ·rename_i r ver len hX
    try simp only[hX]
    have hr:T' r=T r:=hx (r,0,0) (by rw[hX];simp[AVal.ids]);rw[hr];split at h
    ·split at h
     ·rename_i hc;rw[if_pos hc,zxc7 hw'];exact h
     ·cases h
    ·cases h
   ·rename_i hX
    try simp only[hX]
    split at h
    ·rename_i nv hnv;split at h
     ·rename_i hroom;split at h
      ·rename_i c b us hcell;simp only[Option.some.injEq]at h;subst h;have hs:T' (site+1,0)=T (site+1,0):=h2 _ (by simp);have hnv':zwa7 (flat T') (nid site)=some nv:=by rw[←hnv];exact newVer_flat hs
       rw[hnv'];simp only;rw[if_pos hroom,zxc7 hw',pvN_congr hs,hcell]
      ·cases h
     ·cases h
    ·cases h
   ·rename_i hX
    try simp only[hX]
    split at h
    ·rename_i nv hnv;split at h
     ·rename_i hroom;split at h
      ·rename_i c b us hcell;simp only[Option.some.injEq]at h;subst h;have hs:T' (site+1,0)=T (site+1,0):=h2 _ (by simp);have hnv':zwa7 (flat T') (nid site)=some nv:=by rw[←hnv];exact newVer_flat hs
       rw[hnv'];simp only;rw[if_pos hroom,zxc7 hw',pvN_congr hs,hcell]
      ·cases h
     ·cases h
    ·cases h
   ·cases h
  ·cases h
 ·try simp only at h ⊢
  split at h
  ·rename_i v upd hop;simp only[Option.some.injEq]at h;subst h;have hs:T' (site+1,0)=T (site+1,0):=h2 _ (by simp)
   have hu:upd=[(nid site,.blk (.map []))]:=by
    simp only[opE]at hop;split at hop
    ·cases hop
    ·simp only[Option.some.injEq,Prod.mk.injEq]at hop;exact hop.2.symm
   have:=opE_objs (ρ':=flat T') site hop (fun i hi=>by
    rcases hi with hi|hi
    ·simp[touch]at hi
    ·subst hu;simp at hi;subst hi;exact zka7 hs)
   rw[this]
  ·cases h
 ·rename_i ag sh ax ak av;have hx:∀i∈(evX g ax).ids,T' i.1=T i.1:=fun i hi=>hT _ (.inl (by simp only[zie7,touch,List.map_append,List.mem_append];exact .inl (List.mem_map.2 ⟨i,hi,rfl⟩)))
  have hy:∀i∈(evX g av).ids,T' i.1=T i.1:=fun i hi=>hT _ (.inl (by simp only[zie7,touch,List.map_append,List.mem_append];exact .inr (List.mem_map.2 ⟨i,hi,rfl⟩)))
  have hfl:flatE site (.mup ag sh ax ak av) g T=some out→flatE site (.mup ag sh ax ak av) g T'=some out:=fun h=>flatE_objs site h (fun r hr=>hT r (.inl hr)) h2
  try simp only at h ⊢
  split at h
  ·rename_i r hX
   try simp only[hX]
   have hr:T' r=T r:=hx (r,0,0) (by rw[hX];simp[AVal.ids]);rw[hr];split at h
   ·rename_i pv es hTr
    try simp only[hTr]
    unfold mupF at h ⊢;split at h
    ·cases h
    ·rename_i kd hkd
     try simp only[hkd]
     split at h
     ·rename_i i hi
      try simp only[hi]
      split at h
      ·cases h
      ·rename_i old hold;rw[zxc7 hy]
       try simp only[hold]
       exact h
     ·rename_i hi
      try simp only[hi]
      rw[zxc7 hy];exact h
     ·cases h
   ·rename_i hTr;exact hfl h
  ·rename_i hX;exact hfl h
 ·rename_i mv n ax av;have hx:∀i∈(evX g ax).ids,T' i.1=T i.1:=fun i hi=>hT _ (.inl (by simp only[zie7,touch,List.map_append,List.mem_append];exact .inl (List.mem_map.2 ⟨i,hi,rfl⟩)))
  have hy:∀i∈(evX g av).ids,T' i.1=T i.1:=fun i hi=>hT _ (.inl (by simp only[zie7,touch,List.map_append,List.mem_append];exact .inr (List.mem_map.2 ⟨i,hi,rfl⟩)))
  have hfl:flatE site (.st mv n ax av) g T=some out→flatE site (.st mv n ax av) g T'=some out:=fun h=>flatE_objs site h (fun r hr=>hT r (.inl hr)) h2
  try simp only at h ⊢
  split at h
  ·rename_i r ver i hX
   try simp only[hX]
   have hr:T' r=T r:=hx (r,0,0) (by rw[hX];simp[AVal.ids]);rw[hr];split at h
   ·rename_i ver' pv cells hTr
    try simp only[hTr]
    split at h
    ·rename_i hc;rw[if_pos hc];unfold stF at h ⊢;split at h
     ·cases h
     ·rename_i old hold;rw[zxc7 hy]
      try simp only[hold]
      exact h
    ·cases h
   ·rename_i hTr;exact hfl h
  ·rename_i hX;exact hfl h
 ·rename_i hn1 hn2 hn3 hn4 hn5 hn6 hn7 hn8;refine flatE_objs site h (fun r hr=>hT r (.inl ?_)) h2;unfold zie7;split
  ·exact absurd rfl (hn1 _ _ _)
  ·exact absurd rfl (hn2 _ _ _)
  ·exact hr
theorem opT_quiet (K:Orc) (site:Nat) {k:AK} {out:TOut} (h:opT K site k g T=some out) (hk:k.kind≠2):out.2=[]:=by
 unfold opT at h;split at h
 ·simp[AK.kind]at hk
 ·simp[AK.kind]at hk
 ·simp[AK.kind]at hk
 ·simp[AK.kind]at hk
 ·simp[AK.kind]at hk
 ·simp[AK.kind]at hk
 ·simp[AK.kind]at hk
 ·simp[AK.kind]at hk
 ·unfold flatE at h;split at h
  ·cases h
  ·rename_i v upd ho;have:=opE_quiet site ho hk;simp only at this;subst this;simp only[lift,Option.some.injEq]at h;subst h;rfl
theorem opT_blind (K:Orc) (site:Nat) {k:AK} (hk:k.kind=0):opT K site k g T'=opT K site k g T:=by
 unfold opT;split
 ·simp[AK.kind]at hk
 ·simp[AK.kind]at hk
 ·simp[AK.kind]at hk
 ·simp[AK.kind]at hk
 ·simp[AK.kind]at hk
 ·simp[AK.kind]at hk
 ·simp[AK.kind]at hk
 ·simp[AK.kind]at hk
 ·unfold flatE;rw[opE_blind (ρ':=flat T') (ρ:=flat T) site hk];cases ho:opE site _ g (flat T) with
  |none=>rfl
  |some p=>
   obtain⟨v,upd⟩:=p;have:=opE_quiet site ho (by rw[hk];simp);simp only at this;subst this;rfl
end
end Go.Am
