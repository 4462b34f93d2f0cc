/- Parts of the proofs of the statement, joined and made short: AmInsA AmRead AmLaw. -/
import Derived.Test.YtmoibjjpfemgjaaGreatDoorP23
import Derived.Shelf.Spec.SlicesInsertGrow
import Derived.ChangeArms
import Derived.WideShapes
import Derived.WideKeyArgs
import Derived.JoinedOf
import Derived.OpenShut
set_option linter.unusedVariables false
set_option linter.unusedSimpArgs false
set_option linter.unusedSectionVars false
namespace Go.Proofs
open Go.Shelf Go.RowKit Go.Lib
variable {P:Program} {ρ:Ren}
structure InsL (P:Program) (ρ:Ren) (k:Nat):Prop where
 mixed:P.follows .mixedOrders=true
 f22:∃nm og ta fl el lt,P.funcs[ρ.f 22]?=some { Body2.n22 ρ with name:=nm,origin:=og,targs:=ta,file:=fl,endLine:=el,litNo:=lt }
 ov:∀args w,(callFunc (ρ.f 29) args).run P w=((Extern.SlicesOverlaps.overlaps #[ρ.t 24,ρ.t 24] #[ρ.t 4] args).run P w).andThen fun v w'=>.ok (.value v) w'
 t0:P.underlying (ρ.t 0)=some (TypeDesc.tuple #[])
 a0:∀w,(isAgg (ρ.t 0)).run P w=.ok false w
 z0:∀w,(Go.sizeOf (ρ.t 0)).run P w=.ok 1 w
 v0:∀w,(zeroValue (ρ.t 0)).run P w=.ok (Value.tuple #[]) w
 t3:P.underlying (ρ.t 3)=some (TypeDesc.int IntKind.i64)
 a3:∀w,(isAgg (ρ.t 3)).run P w=.ok false w
 z3:∀w,(Go.sizeOf (ρ.t 3)).run P w=.ok 1 w
 v3:∀w,(zeroValue (ρ.t 3)).run P w=.ok (Value.int IntKind.i64 0) w
 t4:P.underlying (ρ.t 4)=some (TypeDesc.bool)
 a4:∀w,(isAgg (ρ.t 4)).run P w=.ok false w
 z4:∀w,(Go.sizeOf (ρ.t 4)).run P w=.ok 1 w
 v4:∀w,(zeroValue (ρ.t 4)).run P w=.ok (Value.bool false) w
 t24:P.underlying (ρ.t 24)=some (TypeDesc.slice (ρ.t 9))
 a24:∀w,(isAgg (ρ.t 24)).run P w=.ok false w
 z24:∀w,(Go.sizeOf (ρ.t 24)).run P w=.ok 1 w
 v24:∀w,(zeroValue (ρ.t 24)).run P w=.ok (Value.slice none 0 0) w
 i9:∃i z,P.info? (ρ.t 9)=some i∧i.size=k∧i.zero=some z∧z.cells.size=k
 k0:0<k
theorem run_copy_k (w:World) (dT sT ty elem:TypeId) (k b o dLen dCap:Nat) (a:Addr) (sLen sCap:Nat) (cs:List Value)
  (hu:P.underlying dT=some (.slice elem)) (hs:(P.info? elem).map (·.size)=some k) (hn:cs.length=Nat.min sLen dLen*k)
  (hsrc:∀j v,cs[j]?=some v→w.cell? (a.add j)=some v) (hc:∀j,j<cs.length→(w.cell? ⟨b,o+j,none⟩).isSome=true) (hf:∀j,j<cs.length→w.frozen? ⟨b,o+j,none⟩=false) (h1:∀v∈cs,v.oneCell'=true):
  (Builtin.copy_ #[dT,sT] ty #[.slice (some ⟨b,o,none⟩) dLen dCap,.slice (some a) sLen sCap]).run P w=.ok (goInt (Nat.min sLen dLen)) (w.setCells b o cs):=by
 have hl:=run_loadCells_list (P:=P) w a cs hsrc;have hst:=run_storeCells_cells (P:=P) b o cs 0 w (by simpa using hc) (by simpa using hf) h1;cases hq:P.info? elem with
 |none=>simp[hq]at hs
 |some i=>
  have hi:i.size=k:=by simpa[hq]using hs
  simp[Builtin.copy_,run_underlying hu,Builtin.lenOf,Builtin.firstCells,sizeOf,typeInfo,hq,hi,←hn,hl,hst]
set_option maxHeartbeats 4000000 in
set_option maxRecDepth 100000 in
theorem ins_shift {k:Nat} (L:InsL P ρ k) (b off n c i vb voff vc:Nat) (cs vs:List Value) (w:World) (hi:i<n) (hroom:n+1≤c) (hn63:n+1≤4611686018427387904)
  (hov:(callFunc (ρ.f 29) #[.slice (some ⟨vb,voff,none⟩) 1 vc,.slice (some ⟨b,off+(i*k+k),none⟩) (n-i) (c-(i+1))]).run P w=.ok (.value (.bool false)) w)
  (hap:∀j j',j<k→j'<c*k→¬(vb=b∧voff+j=off+j'))
  (hcl:cs.length=n*k) (hvl:vs.length=k)
  (hcs:∀j v,cs[j]?=some v→w.cell? ⟨b,off+j,none⟩=some v) (hsp:∀j,j<c*k→(w.cell? ⟨b,off+j,none⟩).isSome=true) (hfz:∀j,j<c*k→w.frozen? ⟨b,off+j,none⟩=false)
  (hvs:∀j v,vs[j]?=some v→w.cell? ⟨vb,voff+j,none⟩=some v) (h1c:∀v∈cs,v.oneCell'=true) (h1v:∀v∈vs,v.oneCell'=true):
  Calls P (ρ.f 22) #[.slice (some ⟨b,off,none⟩) n c,.int .i64 i,.slice (some ⟨vb,voff,none⟩) 1 vc] w fun e w'=>
   e=.returned (.slice (some ⟨b,off,none⟩) (n+1) c)∧w'=(w.drew.setCells b (off+(i*k+k)) (cs.drop (i*k))).setCells b (off+i*k) vs:=by
 have t0:=L.t0;have a0:=L.a0;have z0:=L.z0;have v0:=L.v0;have t3:=L.t3;have a3:=L.a3;have z3:=L.z3;have v3:=L.v3;have t4:=L.t4;have a4:=L.a4;have z4:=L.z4;have v4:=L.v4;have t24:=L.t24;have a24:=L.a24;have z24:=L.z24;have v24:=L.v24;have u0:=run_underlying L.t0;have u3:=run_underlying L.t3;have u4:=run_underlying L.t4;have u24:=run_underlying L.t24;obtain⟨i0,zv,hi0,his,hiz,hizc⟩:=L.i9;obtain⟨nm,og,ta,fl,el,lt,F22⟩:=L.f22;have hk0:=L.k0;have z9:∀w,(Go.sizeOf (ρ.t 9)).run P w=.ok k w:=fun w=>by simp[sizeOf,typeInfo,hi0,his]
 have hz2:¬((i:Int)=(n:Int)):=by omega
 have hsz:(P.info? (ρ.t 9)).map (·.size)=some k:=by rw[hi0];simp[his]
 have hdl:(cs.drop (i*k)).length=(n-i)*k:=by rw[List.length_drop,hcl,Nat.sub_mul]
 have mixed:=L.mixed;have hw1:IntKind.i64.wrap ((i:Int)+1)=(i:Int)+1:=by rw[IntKind.wrap_i64];omega
 have hw2:IntKind.i64.wrap ((n:Int)+1)=(n:Int)+1:=by rw[IntKind.wrap_i64];omega
 have hb1:(0:Int)≤(i:Int)+1:=by omega
 have hin:i≤n:=by omega
 have htn:((i:Int)+1).toNat=i+1:=by omega
 have htn2:((n:Int)+1).toNat=n+1:=by omega
 have hb2:¬(c=i+1):=by omega
 have hb3:(i:Int)≤(n:Int)+1:=by omega
 have hb4:¬(c=i):=by omega
 have hik:(i+1)*k=i*k+k:=by rw[Nat.add_mul,Nat.one_mul]
 have hnk:(n+1)*k≤c*k:=Nat.mul_le_mul_right k hroom;have hnk1:(n+1)*k=n*k+k:=by rw[Nat.add_mul,Nat.one_mul]
 have hnik:(n-i)*k+i*k=n*k:=by rw[←Nat.add_mul];congr 1;omega
 have hmin:Nat.min (n+1-i) (n-i)=n-i:=by simp only[Nat.min_def];split<;>omega
 have hmin2:Nat.min 1 (n+1-i)=1:=by simp only[Nat.min_def];split<;>omega
 have hcp1:∀ty dc sc,(Builtin.copy_ #[(ρ.t 24),(ρ.t 24)] ty #[.slice (some ⟨b,off+(i*k+k),none⟩) (n-i) dc,.slice (some ⟨b,off+i*k,none⟩) (n+1-i) sc]).run P w.drew=.ok (goInt ((n-i:Nat):Int)) (w.drew.setCells b (off+(i*k+k)) (cs.drop (i*k))):=fun ty dc sc=>by
  have h:=run_copy_k (P:=P) w.drew (ρ.t 24) (ρ.t 24) ty (ρ.t 9) k b (off+(i*k+k)) (n-i) dc ⟨b,off+i*k,none⟩ (n+1-i) sc (cs.drop (i*k)) L.t24 hsz (by rw[hdl,hmin])
   (fun j v hj=>by rw[Addr.add_lit,Nat.add_assoc];exact hcs (i*k+j) v (by rwa [List.getElem?_drop]at hj))
   (fun j hj=>by rw[hdl]at hj;rw[Nat.add_assoc];exact hsp _ (by omega)) (fun j hj=>by rw[hdl]at hj;rw[Nat.add_assoc];exact hfz _ (by omega)) (fun v hv=>h1c v (List.mem_of_mem_drop hv))
  rw[hmin]at h;exact h
 obtain⟨W1,hW1⟩:∃W1,W1=w.drew.setCells b (off+(i*k+k)) (cs.drop (i*k)):=⟨_,rfl⟩
 have hsp1:∀j,j<c*k→(W1.cell? ⟨b,off+j,none⟩).isSome=true:=fun j hj=>by
  rw[hW1];exact isSome_setCells b _ _ _ (fun j hj=>by rw[hdl]at hj;rw[Nat.add_assoc];exact hsp _ (by omega)) _ (hsp j hj)
 have hcp2:∀(W:World),(∀x,W.cell? x=W1.cell? x)→(∀x,W.frozen? x=W1.frozen? x)→∀ty dc,(Builtin.copy_ #[(ρ.t 24),(ρ.t 24)] ty #[.slice (some ⟨b,off+i*k,none⟩) (n+1-i) dc,.slice (some ⟨vb,voff,none⟩) 1 vc]).run P W=.ok (goInt ((1:Nat):Int)) (W.setCells b (off+i*k) vs):=fun W hWc hWf ty dc=>by
  have h:=run_copy_k (P:=P) W (ρ.t 24) (ρ.t 24) ty (ρ.t 9) k b (off+i*k) (n+1-i) dc ⟨vb,voff,none⟩ 1 vc vs L.t24 hsz (by rw[hvl,hmin2,Nat.one_mul])
   (fun j v hj=>by
    have hj':j<k:=by rw[←hvl];exact (List.getElem?_eq_some_iff.1 hj).1
    rw[Addr.add_lit,hWc,hW1,World.cell?_setCells_out b _ _ _ _ (fun h1 _=>by
     show voff+j<_∨_≤voff+j
     rw[hdl];refine Classical.byContradiction fun hno=>?_
     exact hap j (voff+j-off) hj' (by omega) ⟨h1,by omega⟩)]
    exact hvs j v hj)
   (fun j hj=>by rw[hvl]at hj;rw[hWc,Nat.add_assoc];exact hsp1 _ (by omega)) (fun j hj=>by rw[hvl]at hj;rw[hWf,hW1,World.frozen?_setCells,Nat.add_assoc];exact hfz _ (by omega)) h1v
  rw[hmin2]at h;exact h
 rw[←hW1]at hcp1
 go_enter F22,Body2.n22_ntmps ρ
 go_wp2_with (simp only[hov])
 go_region_law_o (refine step_copy_runI rfl _ _ (ρ.t 24) (ρ.t 24) rfl _ _ (by simp[Act.eval,Act.put]) (by simp[Act.eval,Act.put]) (hcp1 _ _ _) ?_)
 go_wp2_with (at_builtin;refine wpList_copy_runI _ rfl _ _ (ρ.t 24) (ρ.t 24) rfl _ _ rfl rfl (hcp2 _ (fun _=>rfl) (fun _=>rfl) _ _) ?_)
 go_ret
 first|exact⟨rfl,rfl⟩|exact⟨rfl,by rw[hW1]⟩
set_option maxHeartbeats 4000000 in
set_option maxRecDepth 100000 in
theorem ins_end {k:Nat} (L:InsL P ρ k) (base:Option Addr) (n c vb voff vc:Nat) (w:World) (hbase:base=none→n=0∧c=0) (v':Value) (w':World)
  (hrun:(Builtin.append_ #[(ρ.t 24),(ρ.t 24)] (ρ.t 24) #[.slice base n c,.slice (some ⟨vb,voff,none⟩) 1 vc]).run P w=.ok v' w') (hnc:n≤c) (hn63:n+1≤4611686018427387904):
  Calls P (ρ.f 22) #[.slice base n c,.int .i64 n,.slice (some ⟨vb,voff,none⟩) 1 vc] w fun e w''=>e=.returned v'∧w''=w':=by
 have t0:=L.t0;have a0:=L.a0;have z0:=L.z0;have v0:=L.v0;have t3:=L.t3;have a3:=L.a3;have z3:=L.z3;have v3:=L.v3;have t4:=L.t4;have a4:=L.a4;have z4:=L.z4;have v4:=L.v4;have t24:=L.t24;have a24:=L.a24;have z24:=L.z24;have v24:=L.v24;have u0:=run_underlying L.t0;have u3:=run_underlying L.t3;have u4:=run_underlying L.t4;have u24:=run_underlying L.t24;obtain⟨i0,zv,hi0,his,hiz,hizc⟩:=L.i9;obtain⟨nm,og,ta,fl,el,lt,F22⟩:=L.f22;have mixed:=L.mixed;have z9:∀w,(Go.sizeOf (ρ.t 9)).run P w=.ok k w:=fun w=>by simp[sizeOf,typeInfo,hi0,his]
 go_enter F22,Body2.n22_ntmps ρ
 cases base with
 |none=>
  obtain⟨h0,h1⟩:=hbase rfl;subst h0 h1
  go_wp2_with (at_builtin;refine Lib.wpList_append_run _ rfl _ _ _ _ rfl _ _ rfl rfl _ _ hrun ?_)
  go_ret
  exact⟨rfl,rfl⟩
 |some a=>
  obtain⟨ab,ao,asp⟩:=a
  go_wp2_with (at_builtin;refine Lib.wpList_append_run _ rfl _ _ _ _ rfl _ _ rfl rfl _ _ hrun ?_)
  all_goals (go_ret;exact⟨rfl,rfl⟩)
set_option maxHeartbeats 4000000 in
set_option maxRecDepth 100000 in
theorem ins_grow {k:Nat} (L:InsL P ρ k) (b off n c i vb voff vc:Nat) (cs vs:List Value) (w:World) (hi:i<n) (hnc:n≤c) (hroom:c<n+1)
  (hfit:∀i0,P.info? (ρ.t 9)=some i0→(n+1)*i0.bytes≤140737488355328) (hbig:n+1≤140737488355328)
  (hcl:cs.length=n*k) (hvl:vs.length=k)
  (hcs:∀j v,cs[j]?=some v→w.cell? ⟨b,off+j,none⟩=some v)
  (hvs:∀j v,vs[j]?=some v→w.cell? ⟨vb,voff+j,none⟩=some v) (h1c:∀v∈cs,v.oneCell'=true) (h1v:∀v∈vs,v.oneCell'=true):
  ∃(z:Value) (G:Nat),z.cells.size=k∧n+1≤G∧Calls P (ρ.f 22) #[.slice (some ⟨b,off,none⟩) n c,.int .i64 i,.slice (some ⟨vb,voff,none⟩) 1 vc] w fun e w'=>
   e=.returned (.slice (some ⟨w.heap.size,0,none⟩) (n+1) G)∧
   w'=(((w.alloc (.cells ((cs.take (i*k)).toArray++Builtin.zeroCells z.cells (n+1-i)++Builtin.zeroCells z.cells (G-(n+1))) (ρ.t 9))).drew.setCells w.heap.size (i*k) vs).drew).setCells w.heap.size (i*k+k) (cs.drop (i*k)):=by
 have t0:=L.t0;have a0:=L.a0;have z0:=L.z0;have v0:=L.v0;have t3:=L.t3;have a3:=L.a3;have z3:=L.z3;have v3:=L.v3;have t4:=L.t4;have a4:=L.a4;have z4:=L.z4;have v4:=L.v4;have t24:=L.t24;have a24:=L.a24;have z24:=L.z24;have v24:=L.v24;have u0:=run_underlying L.t0;have u3:=run_underlying L.t3;have u4:=run_underlying L.t4;have u24:=run_underlying L.t24;obtain⟨i0,zv,hi0,his,hiz,hizc⟩:=L.i9;obtain⟨nm,og,ta,fl,el,lt,F22⟩:=L.f22;have hk0:=L.k0;have mixed:=L.mixed;have z9:∀w,(Go.sizeOf (ρ.t 9)).run P w=.ok k w:=fun w=>by simp[sizeOf,typeInfo,hi0,his]
 have hfit:=hfit i0 hi0;have hz2:¬((i:Int)=(n:Int)):=by omega
 have hz3:(c:Int)<(n:Int)+1:=by omega
 have hsz:(P.info? (ρ.t 9)).map (·.size)=some k:=by rw[hi0];simp[his]
 have hik1:i*k+k≤n*k:=by
  have:=Nat.mul_le_mul_right k (show i+1≤n by omega);rw[Nat.add_mul,Nat.one_mul]at this;exact this
 have hbw:b<w.heap.size:=block_lt_of_cell (hcs 0 _ (List.getElem?_eq_getElem (by omega)));have hvw:vb<w.heap.size:=block_lt_of_cell (hvs 0 _ (List.getElem?_eq_getElem (by omega)));have hkk:(n:Int)+1-(i:Int)=((n+1-i:Nat):Int):=by omega
 have hik:i+(n+1-i)=n+1:=by omega
 have htl:(cs.take (i*k)).length=i*k:=by rw[List.length_take];omega
 have hold:(Builtin.firstCells i0.size i (.slice (some ⟨b,off,none⟩) i c)).run P w.drew=.ok (cs.take (i*k)).toArray w.drew:=by
  rw[his]
  exact run_firstCells_some w.drew k i ⟨b,off,none⟩ i c (cs.take (i*k)) (by rw[htl]) (fun j v hj=>by
   rw[Addr.add_lit];rw[List.getElem?_take]at hj;split at hj
   ·exact hcs j v hj
   ·cases hj)
 refine⟨zv,grownCap w (n+1) c (ρ.t 9),hizc,grownCap_ge w _ _ _,?_⟩
 have hG63:grownCap w (n+1) c (ρ.t 9)≤9223372036854775807:=by
  have:=grownCap_le_maxLen w (n+1) c (ρ.t 9) (by unfold maxLen;omega);unfold maxLen at this;omega
 have hGn:=grownCap_ge w (n+1) c (ρ.t 9)
 have hrz:∀ty,(Builtin.append_ #[(ρ.t 24),(ρ.t 3)] ty #[.slice (some ⟨b,off,none⟩) i c,.int .i64 ((n:Int)+1-(i:Int))]).run P w=
   .ok (.slice (some ⟨w.heap.size,0,none⟩) (n+1) (grownCap w (n+1) c (ρ.t 9))) (w.drew.alloc (.cells ((cs.take (i*k)).toArray++Builtin.zeroCells zv.cells (n+1-i)++Builtin.zeroCells zv.cells (grownCap w (n+1) c (ρ.t 9)-(n+1))) (ρ.t 9))):=fun ty=>by
  have hf2:(n+1-i)*i0.bytes≤(n+1)*i0.bytes:=Nat.mul_le_mul_right _ (by omega);have h:=Lib.run_append_grow_zeros w (ρ.t 24) (ρ.t 3) ty (ρ.t 9) i0 _ .i64 .i64 L.t24 L.t3 hi0 hiz (some ⟨b,off,none⟩) i c (cs.take (i*k)) hold (n+1-i) (by omega) (by omega) (by omega) (by omega) (by omega) (by rw[hik];exact growslice_fits hroom hfit);rw[hik]at h;rw[hkk];exact h
 generalize grownCap w (n+1) c (ρ.t 9)=G at *
 obtain⟨ROW,hROW⟩:∃ROW:Array Value,ROW=(cs.take (i*k)).toArray++Builtin.zeroCells zv.cells (n+1-i)++Builtin.zeroCells zv.cells (G-(n+1)):=⟨_,rfl⟩;rw[←hROW]at hrz ⊢
 have hzl:∀m,(Builtin.zeroCells zv.cells m).size=m*k:=by
  intro m;simp[Builtin.zeroCells,hizc,Nat.mul_comm]
 have hnk1:(n+1-i)*k+i*k=n*k+k:=by rw[←Nat.add_mul,show n+1-i+i=n+1 from by omega,Nat.add_mul,Nat.one_mul]
 have hRl:n*k+k≤ROW.size:=by
  rw[hROW,Array.size_append,Array.size_append,hzl,hzl,List.size_toArray,htl];omega
 obtain⟨W1,hW1⟩:∃W1,W1=w.drew.alloc (.cells ROW (ρ.t 9)):=⟨_,rfl⟩;rw[←hW1]at hrz
 have hN:∀j,j<n*k+k→(W1.cell? ⟨w.heap.size,j,none⟩).isSome=true:=fun j hj=>by
  rw[hW1,World.cell?_alloc_at (w:=w.drew) ROW _ w.heap.size j rfl,Array.getElem?_eq_getElem (by omega)];rfl
 have hNf:∀j,W1.frozen? ⟨w.heap.size,j,none⟩=false:=fun j=>by rw[hW1];exact World.frozen?_alloc_at (w:=w.drew) ROW _ w.heap.size j rfl
 have hOb:∀j v,w.cell? ⟨b,j,none⟩=some v→W1.cell? ⟨b,j,none⟩=some v:=fun j v h=>by rw[hW1,World.cell?_alloc_past (w:=w.drew) _ b j hbw];exact h
 have hOv:∀j v,w.cell? ⟨vb,j,none⟩=some v→W1.cell? ⟨vb,j,none⟩=some v:=fun j v h=>by rw[hW1,World.cell?_alloc_past (w:=w.drew) _ vb j hvw];exact h
 have hmin1:Nat.min 1 (n+1-i)=1:=by simp only[Nat.min_def];split<;>omega
 have hmin2:Nat.min (n-i) (n-i)=n-i:=by simp only[Nat.min_def];split<;>omega
 have hcpA:∀(W:World),(∀x,W.cell? x=W1.cell? x)→(∀x,W.frozen? x=W1.frozen? x)→∀ty dc,(Builtin.copy_ #[(ρ.t 24),(ρ.t 24)] ty #[.slice (some ⟨w.heap.size,i*k,none⟩) (n+1-i) dc,.slice (some ⟨vb,voff,none⟩) 1 vc]).run P W=.ok (goInt ((1:Nat):Int)) (W.setCells w.heap.size (i*k) vs):=fun W hWc hWf ty dc=>by
  have h:=run_copy_k (P:=P) W (ρ.t 24) (ρ.t 24) ty (ρ.t 9) k w.heap.size (i*k) (n+1-i) dc ⟨vb,voff,none⟩ 1 vc vs L.t24 hsz (by rw[hvl,hmin1,Nat.one_mul])
   (fun j v hj=>by rw[Addr.add_lit,hWc];exact hOv _ v (hvs j v hj))
   (fun j hj=>by rw[hvl]at hj;rw[hWc];exact hN _ (by omega)) (fun j hj=>by rw[hWf];exact hNf _) h1v
  rw[hmin1]at h;exact h
 have hGi:¬(G=i):=by omega
 have hGim:¬(G=i+1):=by omega
 have hci:¬(c=i):=by omega
 have hbN:b≠w.heap.size:=by omega
 have hdl:(cs.drop (i*k)).length=(n-i)*k:=by rw[List.length_drop,hcl,Nat.sub_mul]
 have hnik:(n-i)*k+i*k=n*k:=by rw[←Nat.add_mul];congr 1;omega
 have hcpB:∀(W:World),(∀x,W.cell? x=(W1.setCells w.heap.size (i*k) vs).cell? x)→(∀x,W.frozen? x=(W1.setCells w.heap.size (i*k) vs).frozen? x)→∀ty dc sc,(Builtin.copy_ #[(ρ.t 24),(ρ.t 24)] ty #[.slice (some ⟨w.heap.size,i*k+k,none⟩) (n-i) dc,.slice (some ⟨b,off+i*k,none⟩) (n-i) sc]).run P W=.ok (goInt ((n-i:Nat):Int)) (W.setCells w.heap.size (i*k+k) (cs.drop (i*k))):=fun W hWc hWf ty dc sc=>by
  have h:=run_copy_k (P:=P) W (ρ.t 24) (ρ.t 24) ty (ρ.t 9) k w.heap.size (i*k+k) (n-i) dc ⟨b,off+i*k,none⟩ (n-i) sc (cs.drop (i*k)) L.t24 hsz (by rw[hdl,hmin2])
   (fun j v hj=>by
    rw[Addr.add_lit,hWc,World.cell?_setCells_out _ _ _ _ _ (fun h _=>absurd h hbN),Nat.add_assoc];exact hOb _ v (hcs (i*k+j) v (by rwa [List.getElem?_drop]at hj)))
   (fun j hj=>by rw[hdl]at hj;rw[hWc];exact isSome_setCells _ _ _ _ (fun t ht=>by rw[hvl]at ht;exact hN _ (by omega)) _ (hN _ (by omega)))
   (fun j hj=>by rw[hWf,World.frozen?_setCells];exact hNf _) (fun v hv=>h1c v (List.mem_of_mem_drop hv))
  rw[hmin2]at h;exact h
 subst hW1;have hE1:∀x,((w.alloc (.cells ROW (ρ.t 9))).drew).cell? x=(w.drew.alloc (.cells ROW (ρ.t 9))).cell? x:=fun x=>rfl
 have hE2:∀x,((w.alloc (.cells ROW (ρ.t 9))).drew).frozen? x=(w.drew.alloc (.cells ROW (ρ.t 9))).frozen? x:=fun x=>rfl
 have hF1:∀x,(((w.alloc (.cells ROW (ρ.t 9))).drew.setCells w.heap.size (i*k) vs).drew).cell? x=((w.drew.alloc (.cells ROW (ρ.t 9))).setCells w.heap.size (i*k) vs).cell? x:=fun x=>rfl
 have hF2:∀x,(((w.alloc (.cells ROW (ρ.t 9))).drew.setCells w.heap.size (i*k) vs).drew).frozen? x=((w.drew.alloc (.cells ROW (ρ.t 9))).setCells w.heap.size (i*k) vs).frozen? x:=fun x=>rfl
 have hw1:IntKind.i64.wrap ((i:Int)+1)=(i:Int)+1:=by rw[IntKind.wrap_i64];omega
 have hw2:IntKind.i64.wrap ((n:Int)+1)=(n:Int)+1:=by rw[IntKind.wrap_i64];omega
 have hb1:(0:Int)≤(i:Int)+1:=by omega
 have hin:i≤n:=by omega
 have htn:((i:Int)+1).toNat=i+1:=by omega
 have hb3:(i:Int)≤(n:Int):=by omega
 clear hkk hik hold hROW hRl
 go_enter F22,Body2.n22_ntmps ρ
 go_wp2_with (first
  |(at_builtin;refine Lib.wpList_append_run _ rfl _ _ _ _ rfl _ _ rfl rfl _ _ (hrz _) ?_)
  |(at_builtin;refine wpList_copy_runI _ rfl _ _ (ρ.t 24) (ρ.t 24) rfl _ _ rfl rfl (hcpA _ hE1 hE2 _ _) ?_)
  |(at_builtin;refine wpList_copy_runI _ rfl _ _ (ρ.t 24) (ρ.t 24) rfl _ _ rfl rfl (hcpB _ (fun _=>rfl) (fun _=>rfl) _ _ _) ?_))
 go_region_law_o (refine step_copy_runI rfl _ _ (ρ.t 24) (ρ.t 24) rfl (.slice (some ⟨w.heap.size,i*k+k,none⟩) (n-i) (G-(i+1))) (.slice (some ⟨b,off+i*k,none⟩) (n-i) (c-i)) (by simp[Act.eval,Act.put,Nat.add_mul]) (by simp[Act.eval,Act.put]) (hcpB _ hF1 hF2 (ρ.t 3) (G-(i+1)) (c-i)) ?_)
 go_wp2
 go_ret
 exact⟨rfl,rfl⟩
end Go.Proofs

namespace Go.Am
def zzd7 (P:Program) (w:World) (t:TypeId) (T:Dat→Prop):Prop:=
 ∀(H:Type) (enc:TypeId×Value→H) (base:Nat) (spare:Nat→Bool) (held:Bool) (fuel:Nat) (cs:List Value) (x:DataW H×List MemPlace),
  DataW.trod enc P w base spare held fuel t cs=some x→∃D,RepD (allF w) D cs∧T D
def IsInt (k:IntKind) (D:Dat):Prop:=∃n,D=.int k n∧(Lit.int k n).wf=true
def IsBool (D:Dat):Prop:=∃b,D=.bool b
def IsStr (D:Dat):Prop:=∃s,D=.str s∧s.length≤maxLen
def IsSl (T:Dat→Prop) (D:Dat):Prop:=∃l,D=.sl l∧(∀d∈l,T d)∧l.length≤maxLen
def IsAgg (Ts:List (Dat→Prop)) (D:Dat):Prop:=∃ds:List Dat,D=.agg (ds.flatMap Dat.cells)∧ds.length=Ts.length∧∀(i:Nat) (T:Dat→Prop) (d:Dat),Ts[i]?=some T→ds[i]?=some d→T d
section
variable {P:Program} {w:World} {t e:TypeId}
theorem zub7 {k:IntKind} (ht:P.underlying t=some (.int k)):zzd7 P w t (IsInt k):=by
 intro H enc base spare held fuel cs x h;obtain⟨n,rfl,_,hw⟩:=DataW.trod_int ht h;exact⟨.int k n,by simp[RepD],n,rfl,hw⟩
theorem zke7 (ht:P.underlying t=some .string):zzd7 P w t IsStr:=by
 intro H enc base spare held fuel cs x h;obtain⟨s,rfl,_,hs⟩:=DataW.trod_string ht h;exact⟨.str s.data.toList,by simp[RepD],s.data.toList,rfl,by simpa using hs⟩
theorem zvc7 {T:Dat→Prop} (ht:P.underlying t=some (.slice e)) (hc:0<P.cellsOf e) (he:zzd7 P w e T):zzd7 P w t (IsSl T):=by
 intro H enc base spare held fuel cs x h;rcases DataW.trod_slice ht h with⟨rfl,_⟩|⟨a,len,cap,elems,rest,n,_,rfl,_,hb,hl,hm,hlen,hel,_,_⟩
 ·exact⟨.sl [],by simp[RepD],[],rfl,by simp,by simp⟩
 ·have each:∀i,i<len→∃D cs,RepD (allF w) D cs∧T D∧cs.length=P.cellsOf e∧(∀j,j<P.cellsOf e→w.cell? ((a.add (i*P.cellsOf e)).add j)=cs[j]?):=by
   intro i hi;have h1:=hel i hi;have h2:elems[i]?=some (elems[i]'(by omega)):=by simp
   rw[h2,Option.bind_eq_some_iff]at h1;obtain⟨cs',hcs,hy⟩:=h1;obtain⟨D,hD,hT⟩:=he H enc base spare held n cs' _ hy;obtain⟨_,hlen',hcell⟩:=World.cells?_some hcs;exact⟨D,cs',hD,hT,hlen',hcell⟩
  have list:∀m,m≤len→∃l:List Dat,l.length=m∧(∀d∈l,T d)∧∀i d,l[i]?=some d→∃cs,RepD (allF w) d cs∧cs.length=P.cellsOf e∧(∀j,j<P.cellsOf e→w.cell? ((a.add (i*P.cellsOf e)).add j)=cs[j]?):=by
   intro m
   induction m with
   |zero=>intro _;exact⟨[],rfl,by simp,by simp⟩
   |succ m ih=>
    intro hm';obtain⟨l,l1,l2,l3⟩:=ih (by omega);obtain⟨D,cs,d1,d2,d3,d4⟩:=each m (by omega);refine⟨l++[D],by simp[l1],fun d hd=>?_,fun i d hi=>?_⟩
    ·rcases List.mem_append.1 hd with hd|hd
     ·exact l2 d hd
     ·simp at hd;subst hd;exact d2
    ·by_cases him:i<m
     ·rw[List.getElem?_append_left (by omega)]at hi;exact l3 i d hi
     ·rw[List.getElem?_append_right (by omega)]at hi
      have:i=m:=by
       have:=(List.getElem?_eq_some_iff.1 hi).1;simp at this;omega
      subst this;simp[l1]at hi;subst hi;exact⟨cs,d1,d3,d4⟩
  obtain⟨l,l1,l2,l3⟩:=list len (Nat.le_refl _);refine⟨.sl l,?_,l,rfl,l2,by omega⟩;simp only[RepD];refine⟨some a,cap,by rw[l1],by omega,?_⟩;cases l with
  |nil=>exact .inl rfl
  |cons d r=>
   right
   have hspot:a.spot=none:=by
    obtain⟨cs,c1,c2,c3⟩:=l3 0 d rfl;have:=c3 0 hc;cases hs:a.spot with
    |none=>rfl
    |some sp=>
     have hcs:cs[0]?=some (cs[0]'(by omega)):=by simp
     rw[hcs]at this;unfold World.cell? at this;simp only[Addr.add]at this;split at this
     ·simp at this;rw[hs]at this;simp at this
     ·cases this
   refine⟨a.block,a.off,P.cellsOf e,by cases a;simp only at hspot;subst hspot;rfl,rowD_of fun i d hi=>?_⟩;obtain⟨cs,c1,c2,c3⟩:=l3 i d hi;refine⟨cs,c2,c1,fun j v hj=>?_⟩;have hjl:j<P.cellsOf e:=by rw[←c2];exact (List.getElem?_eq_some_iff.1 hj).1
   have:=c3 j hjl;rw[hj]at this
   have ea:(a.add (i*P.cellsOf e)).add j=⟨a.block,a.off+i*P.cellsOf e+j,none⟩:=by
    obtain⟨b,o,s⟩:=a;simp only at hspot;subst hspot;unfold Addr.add;split<;>split<;>simp_all
   rw[ea]at this;exact this
def laid (P:Program) (total:Nat):Nat→List Field→Bool
 |o,[]=>o==total
 |o,f::r=>f.offset==o&&laid P total (o+P.cellsOf f.type) r
theorem reads_fields {cs:List Value} {total:Nat} (hlen:cs.length=total):∀(fs:List Field) (Ts:List (Dat→Prop)) (o:Nat),laid P total o fs=true→fs.length=Ts.length→
  (∀(i:Nat) (f:Field) (T:Dat→Prop),fs[i]?=some f→Ts[i]?=some T→∃D,RepD (allF w) D ((cs.drop f.offset).take (P.cellsOf f.type))∧T D)→
  ∃ds:List Dat,AggD (allF w) (ds.flatMap Dat.cells) (cs.drop o)∧ds.length=Ts.length∧∀(i:Nat) (T:Dat→Prop) (d:Dat),Ts[i]?=some T→ds[i]?=some d→T d
 |[],[],o,h,_,_=>by
  simp only[laid,beq_iff_eq]at h;refine⟨[],?_,rfl,by simp⟩;rw[List.drop_of_length_le (by omega)];simp[AggD]
 |[],T::Ts,o,h,hl,_=>by simp at hl
 |f::fs,[],o,h,hl,_=>by simp at hl
 |f::fs,T::Ts,o,h,hl,he=>by
  simp only[laid,Bool.and_eq_true,beq_iff_eq]at h;obtain⟨h1,h2⟩:=h;obtain⟨ds,e1,e2,e3⟩:=reads_fields hlen fs Ts _ h2 (by simpa using hl) fun i f' T' hi hT=>he (i+1) f' T' (by simpa using hi) (by simpa using hT)
  obtain⟨D,d1,d2⟩:=he 0 f T rfl rfl;refine⟨D::ds,?_,by simp[e2],fun i T' d hi hd=>?_⟩
  ·rw[List.flatMap_cons];have:=(d1.cellsAgg).append e1;rw[h1]at this
   have hsplit:(cs.drop o).take (P.cellsOf f.type)++cs.drop (o+P.cellsOf f.type)=cs.drop o:=by
    rw[←List.drop_drop,List.take_append_drop]
   rwa [hsplit]at this
  ·cases i with
   |zero=>simp at hi hd;subst hi;subst hd;exact d2
   |succ i=>exact e3 i T' d (by simpa using hi) (by simpa using hd)
theorem zgc7 {fs:Array Field} {Ts:List (Dat→Prop)} (ht:P.underlying t=some (.struct fs)) (hl:laid P (P.cellsOf t) 0 fs.toList=true) (hn:fs.size=Ts.length)
  (he:∀(i:Nat) (f:Field) (T:Dat→Prop),fs[i]?=some f→Ts[i]?=some T→zzd7 P w f.type T):zzd7 P w t (IsAgg Ts):=by
 intro H enc base spare held fuel cs x h;obtain⟨xs,n,_,_,hlen,hxs,hf⟩:=DataW.trod_struct ht h
 obtain⟨ds,e1,e2,e3⟩:=reads_fields (w:=w) hlen fs.toList Ts 0 hl (by simpa using hn) fun i f T hi hT=>by
  have hi':fs[i]?=some f:=by simpa using hi
  have hlt:i<xs.length:=by rw[hxs];exact (Array.getElem?_eq_some_iff.1 hi').1
  have:=hf i f hi';rw[List.getElem?_eq_getElem hlt]at this;exact he i f T hi' hT H enc base spare held n _ _ this
 exact⟨.agg (ds.flatMap Dat.cells),by simpa[RepD]using e1,ds,rfl,e2,e3⟩
end
end Go.Am

namespace Go.Am
open Go.RowKit Go.ChangeShapes Go.WideShapes
structure ArgOK (P:Program) (t:TypeId) (T:Dat→Prop):Prop where
 rd:∀w,zzd7 P w t T
 agg:∀(w:World) (base:Nat) (v:Value),Value.okWide P w .any base t v→∀D,T D→zqc7 v=D.isAgg
 read:P.readableRec t=true
 row:t<P.types.size
def ArgsOK (P:Program):List TypeId→List (Dat→Prop)→Prop
 |[],[]=>True
 |t::ts,T::Ts=>ArgOK P t T∧ArgsOK P ts Ts
 |_,_=>False
def AllD:List (Dat→Prop)→List Dat→Prop
 |[],[]=>True
 |T::Ts,D::Ds=>T D∧AllD Ts Ds
 |_,_=>False
theorem args_read {P:Program} {H:Type} {enc:TypeId×Value→H} {w:World} {base:Nat}:∀(ts:List TypeId) (Ts:List (Dat→Prop)) (vs:List Value) (ds:List (DataW H)) (ps:List MemPlace),
  ArgsOK P ts Ts→DataW.TrodAll enc P w 0 (fun _=>true) true ts vs ds ps→(∀(j:Nat) t v,ts[j]?=some t→vs[j]?=some v→Value.okWide P w .any base t v)→
  ∃Ds:List Dat,AllD Ts Ds∧RepL (ctx0 w) (Ds.map .dat) vs
 |[],[],vs,ds,ps,_,h,_=>by
  obtain⟨rfl,rfl,rfl⟩:=trodAll_nil h;exact⟨[],trivial,rfl⟩
 |t::ts,T::Ts,vs,ds,ps,hA,h,hv=>by
  obtain⟨v,vs',d,ds',p,q,rfl,rfl,rfl,h0,hr⟩:=trodAll_cons h;obtain⟨a0,ar⟩:=hA;obtain⟨Ds,h1,h2⟩:=args_read ts Ts vs' ds' q ar hr fun j t v ht hvj=>hv (j+1) t v (by simpa using ht) (by simpa using hvj)
  obtain⟨fuel,hf⟩:=h0;obtain⟨D,d1,d2⟩:=a0.rd w H enc 0 (fun _=>true) true fuel _ _ hf;exact⟨D::Ds,⟨d2,h1⟩,v,vs',rfl,⟨d1,a0.agg w base v (hv 0 t v rfl rfl) D d2⟩,h2⟩
 |[],T::Ts,_,_,_,h,_,_=>h.elim
 |t::ts,[],_,_,_,h,_,_=>h.elim
theorem args_again {P:Program} {H:Type} {enc:TypeId×Value→H} {w w':World} (hl:laidOutB P=true) (sp:Nat→Bool):∀(ts:List TypeId) (Ts:List (Dat→Prop)) (vs:List Value) (ds:List (DataW H)) (ps:List MemPlace),
  ArgsOK P ts Ts→DataW.TrodAll enc P w 0 (fun _=>true) true ts vs ds ps→(∀p∈ps,w.sameAt w' p)→(∀p∈ps,sp p.block=true)→DataW.TrodAll enc P w' 0 sp true ts vs ds ps
 |[],[],vs,ds,ps,_,h,_,_=>by
  obtain⟨rfl,rfl,rfl⟩:=trodAll_nil h;exact trodAll_mk0
 |t::ts,T::Ts,vs,ds,ps,hA,h,hs,hp=>by
  obtain⟨v,vs',d,ds',p,q,rfl,rfl,rfl,h0,hr⟩:=trodAll_cons h;obtain⟨a0,ar⟩:=hA
  exact trodAll_cons_mk (WideElems.Trod_stays hl a0.read a0.row h0 (fun x hx=>hs x (by simp[hx])) (fun x hx=>hp x (by simp[hx])))
   (args_again hl sp ts Ts vs' ds' q ar hr (fun x hx=>hs x (by simp[hx])) (fun x hx=>hp x (by simp[hx])))
 |[],T::Ts,_,_,_,h,_,_,_=>h.elim
 |t::ts,[],_,_,_,h,_,_,_=>h.elim
theorem GrownL.same {w w':World} (h:GrownL w w') {p:MemPlace} (hb:p.block<w.heap.size):w.sameAt w' p:=by
 have hk:=h.1;cases p with
 |cell b o=>exact hk.cell hb (fun h=>h)
 |map b=>
  show w'.heap[b]?=w.heap[b]?
  have hk:=hk.2.2 b hb;split at hk
  ·rename_i c t fr c' t' fr' e1 e2;obtain⟨rfl,rfl,h3,h4⟩:=hk;have:c'=c:=Array.ext_getElem? fun j=>h4 j (fun h=>h)
   rw[e1,e2,this]
  ·rename_i e1 e2;rcases hk with hf|⟨rfl,rfl⟩
   ·exact hf.elim
   ·rw[e1,e2]
  ·exact hk
theorem post_old {P:Program} {H:Type} {enc:TypeId×Value→H} {f:Func} {s:ChangeSpec} {apart fresh handsOn again:Bool} {W W':World} {args:Array Value} {v:Value} {ds gs:List (DataW H)} {before pa pv:List MemPlace}
  (hW:DataW.Whole enc P f.params.toList s.vars apart W args.toList ds gs before)
  (h1:∀(b:Nat) (sp:Nat→Bool) (hd:Bool),DataW.TrodAll enc P W' b sp hd f.resultTypes.toList (v.resultList f.resultTypes.size) (s.fn H (ds++gs)).results [])
  (h2:∀sp:Nat→Bool,(∀p∈before,sp p.block=true)→DataW.TrodAll enc P W' 0 sp true f.params.toList args.toList (s.fn H (ds++gs)).args pa)
  (h3:∀sp:Nat→Bool,(∀p∈before,sp p.block=true)→DataW.TrodVars enc P W' sp s.vars (s.fn H (ds++gs)).vars pv)
  (h4:before=pa++pv) (h5:W.keptBut W' (·∈before)) (h6:∀a,a.block<W.heap.size→W'.frozen? a=W.frozen? a)
  (h7:∀(j:Nat) (t:TypeId) (r:Value),f.resultTypes[j]?=some t→(v.resultList f.resultTypes.size)[j]?=some r→Value.okWide P W' .any 0 t r):
  s.post enc P f apart fresh handsOn again W args v W':=by
 have lt:=hW.lt;refine⟨ds,gs,before,[],pa,pv,hW,h1 _ _ _,h2 (fun b=>decide (b<W.heap.size)) (fun p hp=>by simpa using lt p hp),h3 _ (fun p hp=>by simpa using lt p hp),World.keptBut_mono (fun p hp=>⟨hp,.inr (List.mem_append.1 (h4▸hp))⟩) h5,fun _=>?_⟩;obtain⟨_,_,_,_,_,hz,hn⟩:=hW;refine⟨h7,_,_,([]++pa)++pv,⟨[]++pa,pv,trodAll_append (h2 _ (fun _ _=>rfl)) (h1 _ _ _),h3 _ (fun _ _=>rfl),rfl,fun b off hp=>?_,fun ha=>by simpa[h4]using hn ha⟩,fun p hp _=>by simpa[h4]using hp⟩;have hp':MemPlace.cell b off∈before:=by rw[h4];simpa using hp
 rw[h6 _ (lt _ hp')];exact hz b off hp'
theorem law_contract [Glob] {P:Program} {tbl:Tab} (ht:TblOK P tbl) (hl:laidOutB P=true) {f:FuncId} {fn:Func} {s:ChangeSpec} {Ts:List (Dat→Prop)} (hA:ArgsOK P fn.params.toList Ts)
  {tb:TypeId} (htb:P.underlying tb=some .bool) (hres:fn.resultTypes=#[tb]) (hvars:s.vars=[])
  (hfn:∀(H:Type) (ds:List (DataW H)),ds.length=fn.params.size→s.fn H ds={ results:=[.lit (.bool true)],args:=ds })
  {H:Type} {enc:TypeId×Value→H} {W:World} {base:Nat} {args:Array Value} {ds gs:List (DataW H)} {before:List MemPlace}
  (hG:GlobOK (allF W)) (hrun:∀Ds,AllD Ts Ds→RepL (ctx0 W) (Ds.map .dat) args.toList→∃os',callT tbl f (Ds.map .dat) []=some (.dat (.bool true),os'))
  (hval:∀(j:Nat) t v,fn.params[j]?=some t→args[j]?=some v→Value.okWide P W .any base t v)
  (hW:DataW.Whole enc P fn.params.toList s.vars false W args.toList ds gs before):
  Calls P f args W fun e W'=>∃v,e=.returned v∧s.post enc P fn false true false false W args v W':=by
 have hW':=hW;obtain⟨p,q,hA0,hV,rfl,hfz,hnd⟩:=hW;rw[hvars]at hV;obtain⟨rfl,rfl⟩:=trodVars_none hV;obtain⟨Ds,h1,h2⟩:=args_read _ _ _ _ _ hA hA0 fun j t v ht hv=>hval j t v (by simpa using ht) (by simpa using hv)
 obtain⟨os',ho⟩:=hrun Ds h1 h2;refine (top_calls ht ho hG h2).mono fun e W1 ⟨he,hg⟩=>?_
 have hlen:∀(ts:List TypeId) (vs:List Value) (ds:List (DataW H)) (ps:List MemPlace),DataW.TrodAll enc P W 0 (fun _=>true) true ts vs ds ps→ds.length=ts.length:=by
  intro ts
  induction ts with
  |nil=>intro vs ds ps h;obtain⟨rfl,rfl,rfl⟩:=trodAll_nil h;rfl
  |cons t ts ih=>
   intro vs ds ps h;obtain⟨v,vs',d,ds',p,q,rfl,rfl,rfl,_,hr⟩:=trodAll_cons h;simp[ih _ _ _ hr]
 have hds:=hlen _ _ _ _ hA0;have hs:=hfn H ds (by rw[hds];simp);subst he;refine⟨_,rfl,post_old (pa:=p) (pv:=[]) hW' (fun b sp hd=>?_) (fun sp hsp=>?_) (fun _ _=>?_) (by simp) (World.keptBut_mono (fun _ f=>f.elim) hg.1) hg.2.1 (ok_one hres rfl (okWide_bool_mk htb _))⟩
 ·rw[List.append_nil,hs,hres];exact trodAll_cons_mk (shut_bool htb _) trodAll_mk0
 ·rw[List.append_nil,hs];exact args_again hl sp _ _ _ _ _ hA hA0 (fun x hx=>GrownL.same hg (hW'.lt x (by simpa using hx))) (fun x hx=>hsp x (by simpa using hx))
 ·rw[hvars,List.append_nil,hs];rfl
def flatW {H:Type}:DataW H→List Dat
 |.lit (.int k n)=>[.int k n]
 |.lit (.bool b)=>[.bool b]
 |.lit (.string s)=>[.str s]
 |.agg l=>flatWs l
 |_=>[]
 where
 flatWs:List (DataW H)→List Dat
  |[]=>[]
  |d::r=>flatW d++flatWs r
def ReadsV (P:Program) (w:World) (t:TypeId):Prop:=
 ∀(H:Type) (enc:TypeId×Value→H) (base:Nat) (spare:Nat→Bool) (held:Bool) (fuel:Nat) (cs:List Value) (x:DataW H×List MemPlace),
  DataW.trod enc P w base spare held fuel t cs=some x→AggD (allF w) (flatW x.1) cs
section
variable {P:Program} {w:World} {t e:TypeId}
theorem readsV_bool (ht:P.underlying t=some .bool):ReadsV P w t:=by
 intro H enc base spare held fuel cs x h;obtain⟨b,rfl,hx⟩:=DataW.trod_bool ht h;rw[hx];simp[flatW,AggD,RepD]
theorem readsV_string (ht:P.underlying t=some .string):ReadsV P w t:=by
 intro H enc base spare held fuel cs x h;obtain⟨s,rfl,hx,_⟩:=DataW.trod_string ht h;rw[hx];simp[flatW,AggD,RepD]
theorem flatWs_cons {H:Type} (d:DataW H) (r:List (DataW H)):flatW.flatWs (d::r)=flatW d++flatW.flatWs r:=rfl
theorem readsV_fields {H:Type} {F:Froz} {cs:List Value} {total:Nat} (hlen:cs.length=total):∀(fs:List Field) (o:Nat) (xs:List (DataW H×List MemPlace)),laid P total o fs=true→xs.length=fs.length→
  (∀(i:Nat) (f:Field),fs[i]?=some f→∃x,xs[i]?=some x∧AggD F (flatW x.1) ((cs.drop f.offset).take (P.cellsOf f.type)))→AggD F (flatW.flatWs (xs.map (·.1))) (cs.drop o)
 |[],o,xs,hl,hn,h=>by
  have:xs=[]:=List.eq_nil_of_length_eq_zero (by simpa using hn);subst this;simp only[laid,beq_iff_eq]at hl;have:cs.drop o=[]:=List.drop_of_length_le (by omega);rw[this];simp[flatW.flatWs,AggD]
 |f::fs,o,[],hl,hn,h=>by simp at hn
 |f::fs,o,x::xs,hl,hn,h=>by
  simp only[laid,Bool.and_eq_true,beq_iff_eq]at hl;obtain⟨h1,h2⟩:=hl;obtain⟨x',hx,hd⟩:=h 0 f rfl;simp only[List.getElem?_cons_zero,Option.some.injEq]at hx;subst hx
  have ih:=readsV_fields hlen fs (o+P.cellsOf f.type) xs h2 (by simpa using hn) fun i f' hi=>by
   have:=h (i+1) f' (by simpa using hi);simpa using this
  simp only[List.map_cons,flatWs_cons]
  have e:cs.drop o=(cs.drop o).take (P.cellsOf f.type)++cs.drop (o+P.cellsOf f.type):=by
   rw[←List.drop_drop,List.take_append_drop]
  rw[e];rw[h1]at hd;exact hd.append ih
theorem readsV_struct {fs:Array Field} (ht:P.underlying t=some (.struct fs)) (hl:laid P (P.cellsOf t) 0 fs.toList=true) (he:∀(i:Nat) (f:Field),fs[i]?=some f→ReadsV P w f.type):ReadsV P w t:=by
 intro H enc base spare held fuel cs x h;obtain⟨xs,n,_,hx,hlen,hxs,hf⟩:=DataW.trod_struct ht h;rw[hx]
 have:=readsV_fields (F:=allF w) hlen fs.toList 0 xs hl (by simpa using hxs) fun i f hi=>by
  have hi':fs[i]?=some f:=by simpa using hi
  have hlt:i<xs.length:=by rw[hxs];exact (Array.getElem?_eq_some_iff.1 hi').1
  have:=hf i f hi';rw[List.getElem?_eq_getElem hlt]at this;exact⟨xs[i],List.getElem?_eq_getElem hlt,he i f hi' H enc base spare held n _ _ this⟩
 simpa[flatW]using this
theorem zpf7 {n:Nat} (ht:P.underlying t=some (.array n e)) (hc:P.cellsOf t=n*P.cellsOf e) (he:ReadsV P w e):ReadsV P w t:=by
 intro H enc base spare held fuel cs x h;obtain⟨xs,m,_,hx,hlen,hxs,hf⟩:=DataW.trod_array ht h;rw[hx]
 have key:∀(k:Nat),k≤n→AggD (allF w) (flatW.flatWs ((xs.drop (n-k)).map (·.1))) (cs.drop ((n-k)*P.cellsOf e)):=by
  intro k
  induction k with
  |zero=>
   intro _;rw[Nat.sub_zero,List.drop_of_length_le (by omega),List.drop_of_length_le (by omega)];simp[flatW.flatWs,AggD]
  |succ k ih=>
   intro hk;have ih:=ih (by omega);have hlt:n-(k+1)<xs.length:=by omega
   rw[List.drop_eq_getElem_cons hlt,List.map_cons,flatWs_cons];have h1:=hf (n-(k+1)) (by omega);rw[List.getElem?_eq_getElem hlt]at h1;have h2:=he H enc base spare held m _ _ h1
   have e1:cs.drop ((n-(k+1))*P.cellsOf e)=(cs.drop ((n-(k+1))*P.cellsOf e)).take (P.cellsOf e)++cs.drop ((n-k)*P.cellsOf e):=by
    have:(n-k)*P.cellsOf e=(n-(k+1))*P.cellsOf e+P.cellsOf e:=by
     have:n-k=n-(k+1)+1:=by omega
     rw[this,Nat.add_mul];omega
    rw[this,←List.drop_drop,List.take_append_drop]
   rw[e1];have e2:n-(k+1)+1=n-k:=by omega
   rw[e2];exact h2.append ih
 have:=key n (Nat.le_refl _);simpa[flatW]using this
end
theorem argStruct {P:Program} {t:TypeId} {fs:Array Field} {Ts:List (Dat→Prop)} (ht:P.underlying t=some (.struct fs)) (hl:laid P (P.cellsOf t) 0 fs.toList=true) (hn:fs.size=Ts.length)
  (he:∀w,∀(i:Nat) (f:Field) (T:Dat→Prop),fs[i]?=some f→Ts[i]?=some T→zzd7 P w f.type T) (hr:P.readableRec t=true) (hs:t<P.types.size):ArgOK P t (IsAgg Ts):=
 ⟨fun w=>zgc7 ht hl hn (he w),fun w base v hv D ⟨n,h,_⟩=>by obtain⟨cs,rfl,_⟩:=okWide_struct ht hv;subst h;rfl,hr,hs⟩
end Go.Am
