/- Parts of the proofs of the statement, joined and made short: AmInsA AmRead AmLaw AmInsB AmInsC AmInsD. -/
import Derived.Test.YtmoibjjpfemgjaaGreatDoorP16
import Derived.Shelf.Spec.SlicesInsertGrow
import Derived.ChangeArms
import Derived.WideShapes
import Derived.WideKeyArgs
import Derived.JoinedOf
import Derived.OpenShut
set_option linter.unusedVariables false
set_option linter.unusedSimpArgs false
set_option linter.unusedSectionVars false
namespace Go.Proofs
open Go.Shelf Go.RowKit Go.Lib
variable {P:Program} {ρ:Ren}
structure InsL (P:Program) (ρ:Ren) (k:Nat):Prop where
 mixed:P.follows .mixedOrders=true
 f22:∃nm og ta fl el lt,P.funcs[ρ.f 22]?=some { Body2.n22 ρ with name:=nm,origin:=og,targs:=ta,file:=fl,endLine:=el,litNo:=lt }
 ov:∀args w,(callFunc (ρ.f 29) args).run P w=((Extern.SlicesOverlaps.overlaps #[ρ.t 24,ρ.t 24] #[ρ.t 4] args).run P w).andThen fun v w'=>.ok (.value v) w'
 t0:P.underlying (ρ.t 0)=some (TypeDesc.tuple #[])
 a0:∀w,(isAgg (ρ.t 0)).run P w=.ok false w
 z0:∀w,(Go.sizeOf (ρ.t 0)).run P w=.ok 1 w
 v0:∀w,(zeroValue (ρ.t 0)).run P w=.ok (Value.tuple #[]) w
 t3:P.underlying (ρ.t 3)=some (TypeDesc.int IntKind.i64)
 a3:∀w,(isAgg (ρ.t 3)).run P w=.ok false w
 z3:∀w,(Go.sizeOf (ρ.t 3)).run P w=.ok 1 w
 v3:∀w,(zeroValue (ρ.t 3)).run P w=.ok (Value.int IntKind.i64 0) w
 t4:P.underlying (ρ.t 4)=some (TypeDesc.bool)
 a4:∀w,(isAgg (ρ.t 4)).run P w=.ok false w
 z4:∀w,(Go.sizeOf (ρ.t 4)).run P w=.ok 1 w
 v4:∀w,(zeroValue (ρ.t 4)).run P w=.ok (Value.bool false) w
 t24:P.underlying (ρ.t 24)=some (TypeDesc.slice (ρ.t 9))
 a24:∀w,(isAgg (ρ.t 24)).run P w=.ok false w
 z24:∀w,(Go.sizeOf (ρ.t 24)).run P w=.ok 1 w
 v24:∀w,(zeroValue (ρ.t 24)).run P w=.ok (Value.slice none 0 0) w
 i9:∃i z,P.info? (ρ.t 9)=some i∧i.size=k∧i.zero=some z∧z.cells.size=k
 k0:0<k
theorem run_copy_k (w:World) (dT sT ty elem:TypeId) (k b o dLen dCap:Nat) (a:Addr) (sLen sCap:Nat) (cs:List Value)
  (hu:P.underlying dT=some (.slice elem)) (hs:(P.info? elem).map (·.size)=some k) (hn:cs.length=Nat.min sLen dLen*k)
  (hsrc:∀j v,cs[j]?=some v→w.cell? (a.add j)=some v) (hc:∀j,j<cs.length→(w.cell? ⟨b,o+j,none⟩).isSome=true) (hf:∀j,j<cs.length→w.frozen? ⟨b,o+j,none⟩=false) (h1:∀v∈cs,v.oneCell'=true):
  (Builtin.copy_ #[dT,sT] ty #[.slice (some ⟨b,o,none⟩) dLen dCap,.slice (some a) sLen sCap]).run P w=.ok (goInt (Nat.min sLen dLen)) (w.setCells b o cs):=by
 have hl:=run_loadCells_list (P:=P) w a cs hsrc;have hst:=run_storeCells_cells (P:=P) b o cs 0 w (by simpa using hc) (by simpa using hf) h1;cases hq:P.info? elem with
 |none=>simp[hq]at hs
 |some i=>
  have hi:i.size=k:=by simpa[hq]using hs
  simp[Builtin.copy_,run_underlying hu,Builtin.lenOf,Builtin.firstCells,sizeOf,typeInfo,hq,hi,←hn,hl,hst]
set_option maxHeartbeats 4000000 in
set_option maxRecDepth 100000 in
theorem ins_shift {k:Nat} (L:InsL P ρ k) (b off n c i vb voff vc:Nat) (cs vs:List Value) (w:World) (hi:i<n) (hroom:n+1≤c) (hn63:n+1≤4611686018427387904)
  (hov:(callFunc (ρ.f 29) #[.slice (some ⟨vb,voff,none⟩) 1 vc,.slice (some ⟨b,off+(i*k+k),none⟩) (n-i) (c-(i+1))]).run P w=.ok (.value (.bool false)) w)
  (hap:∀j j',j<k→j'<c*k→¬(vb=b∧voff+j=off+j'))
  (hcl:cs.length=n*k) (hvl:vs.length=k)
  (hcs:∀j v,cs[j]?=some v→w.cell? ⟨b,off+j,none⟩=some v) (hsp:∀j,j<c*k→(w.cell? ⟨b,off+j,none⟩).isSome=true) (hfz:∀j,j<c*k→w.frozen? ⟨b,off+j,none⟩=false)
  (hvs:∀j v,vs[j]?=some v→w.cell? ⟨vb,voff+j,none⟩=some v) (h1c:∀v∈cs,v.oneCell'=true) (h1v:∀v∈vs,v.oneCell'=true):
  Calls P (ρ.f 22) #[.slice (some ⟨b,off,none⟩) n c,.int .i64 i,.slice (some ⟨vb,voff,none⟩) 1 vc] w fun e w'=>
   e=.returned (.slice (some ⟨b,off,none⟩) (n+1) c)∧w'=(w.drew.setCells b (off+(i*k+k)) (cs.drop (i*k))).setCells b (off+i*k) vs:=by
 have t0:=L.t0;have a0:=L.a0;have z0:=L.z0;have v0:=L.v0;have t3:=L.t3;have a3:=L.a3;have z3:=L.z3;have v3:=L.v3;have t4:=L.t4;have a4:=L.a4;have z4:=L.z4;have v4:=L.v4;have t24:=L.t24;have a24:=L.a24;have z24:=L.z24;have v24:=L.v24;have u0:=run_underlying L.t0;have u3:=run_underlying L.t3;have u4:=run_underlying L.t4;have u24:=run_underlying L.t24;obtain⟨i0,zv,hi0,his,hiz,hizc⟩:=L.i9;obtain⟨nm,og,ta,fl,el,lt,F22⟩:=L.f22;have hk0:=L.k0;have z9:∀w,(Go.sizeOf (ρ.t 9)).run P w=.ok k w:=fun w=>by simp[sizeOf,typeInfo,hi0,his]
 have hz2:¬((i:Int)=(n:Int)):=by omega
 have hsz:(P.info? (ρ.t 9)).map (·.size)=some k:=by rw[hi0];simp[his]
 have hdl:(cs.drop (i*k)).length=(n-i)*k:=by rw[List.length_drop,hcl,Nat.sub_mul]
 have mixed:=L.mixed;have hw1:IntKind.i64.wrap ((i:Int)+1)=(i:Int)+1:=by rw[IntKind.wrap_i64];omega
 have hw2:IntKind.i64.wrap ((n:Int)+1)=(n:Int)+1:=by rw[IntKind.wrap_i64];omega
 have hb1:(0:Int)≤(i:Int)+1:=by omega
 have hin:i≤n:=by omega
 have htn:((i:Int)+1).toNat=i+1:=by omega
 have htn2:((n:Int)+1).toNat=n+1:=by omega
 have hb2:¬(c=i+1):=by omega
 have hb3:(i:Int)≤(n:Int)+1:=by omega
 have hb4:¬(c=i):=by omega
 have hik:(i+1)*k=i*k+k:=by rw[Nat.add_mul,Nat.one_mul]
 have hnk:(n+1)*k≤c*k:=Nat.mul_le_mul_right k hroom;have hnk1:(n+1)*k=n*k+k:=by rw[Nat.add_mul,Nat.one_mul]
 have hnik:(n-i)*k+i*k=n*k:=by rw[←Nat.add_mul];congr 1;omega
 have hmin:Nat.min (n+1-i) (n-i)=n-i:=by simp only[Nat.min_def];split<;>omega
 have hmin2:Nat.min 1 (n+1-i)=1:=by simp only[Nat.min_def];split<;>omega
 have hcp1:∀ty dc sc,(Builtin.copy_ #[(ρ.t 24),(ρ.t 24)] ty #[.slice (some ⟨b,off+(i*k+k),none⟩) (n-i) dc,.slice (some ⟨b,off+i*k,none⟩) (n+1-i) sc]).run P w.drew=.ok (goInt ((n-i:Nat):Int)) (w.drew.setCells b (off+(i*k+k)) (cs.drop (i*k))):=fun ty dc sc=>by
  have h:=run_copy_k (P:=P) w.drew (ρ.t 24) (ρ.t 24) ty (ρ.t 9) k b (off+(i*k+k)) (n-i) dc ⟨b,off+i*k,none⟩ (n+1-i) sc (cs.drop (i*k)) L.t24 hsz (by rw[hdl,hmin])
   (fun j v hj=>by rw[Addr.add_lit,Nat.add_assoc];exact hcs (i*k+j) v (by rwa [List.getElem?_drop]at hj))
   (fun j hj=>by rw[hdl]at hj;rw[Nat.add_assoc];exact hsp _ (by omega)) (fun j hj=>by rw[hdl]at hj;rw[Nat.add_assoc];exact hfz _ (by omega)) (fun v hv=>h1c v (List.mem_of_mem_drop hv))
  rw[hmin]at h;exact h
 obtain⟨W1,hW1⟩:∃W1,W1=w.drew.setCells b (off+(i*k+k)) (cs.drop (i*k)):=⟨_,rfl⟩
 have hsp1:∀j,j<c*k→(W1.cell? ⟨b,off+j,none⟩).isSome=true:=fun j hj=>by
  rw[hW1];exact isSome_setCells b _ _ _ (fun j hj=>by rw[hdl]at hj;rw[Nat.add_assoc];exact hsp _ (by omega)) _ (hsp j hj)
 have hcp2:∀(W:World),(∀x,W.cell? x=W1.cell? x)→(∀x,W.frozen? x=W1.frozen? x)→∀ty dc,(Builtin.copy_ #[(ρ.t 24),(ρ.t 24)] ty #[.slice (some ⟨b,off+i*k,none⟩) (n+1-i) dc,.slice (some ⟨vb,voff,none⟩) 1 vc]).run P W=.ok (goInt ((1:Nat):Int)) (W.setCells b (off+i*k) vs):=fun W hWc hWf ty dc=>by
  have h:=run_copy_k (P:=P) W (ρ.t 24) (ρ.t 24) ty (ρ.t 9) k b (off+i*k) (n+1-i) dc ⟨vb,voff,none⟩ 1 vc vs L.t24 hsz (by rw[hvl,hmin2,Nat.one_mul])
   (fun j v hj=>by
    have hj':j<k:=by rw[←hvl];exact (List.getElem?_eq_some_iff.1 hj).1
    rw[Addr.add_lit,hWc,hW1,World.cell?_setCells_out b _ _ _ _ (fun h1 _=>by
     show voff+j<_∨_≤voff+j
     rw[hdl];refine Classical.byContradiction fun hno=>?_
     exact hap j (voff+j-off) hj' (by omega) ⟨h1,by omega⟩)]
    exact hvs j v hj)
   (fun j hj=>by rw[hvl]at hj;rw[hWc,Nat.add_assoc];exact hsp1 _ (by omega)) (fun j hj=>by rw[hvl]at hj;rw[hWf,hW1,World.frozen?_setCells,Nat.add_assoc];exact hfz _ (by omega)) h1v
  rw[hmin2]at h;exact h
 rw[←hW1]at hcp1
 go_enter F22,Body2.n22_ntmps ρ
 go_wp2_with (simp only[hov])
 go_region_law_o (refine step_copy_runI rfl _ _ (ρ.t 24) (ρ.t 24) rfl _ _ (by simp[Act.eval,Act.put]) (by simp[Act.eval,Act.put]) (hcp1 _ _ _) ?_)
 go_wp2_with (at_builtin;refine wpList_copy_runI _ rfl _ _ (ρ.t 24) (ρ.t 24) rfl _ _ rfl rfl (hcp2 _ (fun _=>rfl) (fun _=>rfl) _ _) ?_)
 go_ret
 first|exact⟨rfl,rfl⟩|exact⟨rfl,by rw[hW1]⟩
set_option maxHeartbeats 4000000 in
set_option maxRecDepth 100000 in
theorem ins_end {k:Nat} (L:InsL P ρ k) (base:Option Addr) (n c vb voff vc:Nat) (w:World) (hbase:base=none→n=0∧c=0) (v':Value) (w':World)
  (hrun:(Builtin.append_ #[(ρ.t 24),(ρ.t 24)] (ρ.t 24) #[.slice base n c,.slice (some ⟨vb,voff,none⟩) 1 vc]).run P w=.ok v' w') (hnc:n≤c) (hn63:n+1≤4611686018427387904):
  Calls P (ρ.f 22) #[.slice base n c,.int .i64 n,.slice (some ⟨vb,voff,none⟩) 1 vc] w fun e w''=>e=.returned v'∧w''=w':=by
 have t0:=L.t0;have a0:=L.a0;have z0:=L.z0;have v0:=L.v0;have t3:=L.t3;have a3:=L.a3;have z3:=L.z3;have v3:=L.v3;have t4:=L.t4;have a4:=L.a4;have z4:=L.z4;have v4:=L.v4;have t24:=L.t24;have a24:=L.a24;have z24:=L.z24;have v24:=L.v24;have u0:=run_underlying L.t0;have u3:=run_underlying L.t3;have u4:=run_underlying L.t4;have u24:=run_underlying L.t24;obtain⟨i0,zv,hi0,his,hiz,hizc⟩:=L.i9;obtain⟨nm,og,ta,fl,el,lt,F22⟩:=L.f22;have mixed:=L.mixed;have z9:∀w,(Go.sizeOf (ρ.t 9)).run P w=.ok k w:=fun w=>by simp[sizeOf,typeInfo,hi0,his]
 go_enter F22,Body2.n22_ntmps ρ
 cases base with
 |none=>
  obtain⟨h0,h1⟩:=hbase rfl;subst h0 h1
  go_wp2_with (at_builtin;refine Lib.wpList_append_run _ rfl _ _ _ _ rfl _ _ rfl rfl _ _ hrun ?_)
  go_ret
  exact⟨rfl,rfl⟩
 |some a=>
  obtain⟨ab,ao,asp⟩:=a
  go_wp2_with (at_builtin;refine Lib.wpList_append_run _ rfl _ _ _ _ rfl _ _ rfl rfl _ _ hrun ?_)
  all_goals (go_ret;exact⟨rfl,rfl⟩)
set_option maxHeartbeats 4000000 in
set_option maxRecDepth 100000 in
theorem ins_grow {k:Nat} (L:InsL P ρ k) (b off n c i vb voff vc:Nat) (cs vs:List Value) (w:World) (hi:i<n) (hnc:n≤c) (hroom:c<n+1)
  (hfit:∀i0,P.info? (ρ.t 9)=some i0→(n+1)*i0.bytes≤140737488355328) (hbig:n+1≤140737488355328)
  (hcl:cs.length=n*k) (hvl:vs.length=k)
  (hcs:∀j v,cs[j]?=some v→w.cell? ⟨b,off+j,none⟩=some v)
  (hvs:∀j v,vs[j]?=some v→w.cell? ⟨vb,voff+j,none⟩=some v) (h1c:∀v∈cs,v.oneCell'=true) (h1v:∀v∈vs,v.oneCell'=true):
  ∃(z:Value) (G:Nat),z.cells.size=k∧n+1≤G∧Calls P (ρ.f 22) #[.slice (some ⟨b,off,none⟩) n c,.int .i64 i,.slice (some ⟨vb,voff,none⟩) 1 vc] w fun e w'=>
   e=.returned (.slice (some ⟨w.heap.size,0,none⟩) (n+1) G)∧
   w'=(((w.alloc (.cells ((cs.take (i*k)).toArray++Builtin.zeroCells z.cells (n+1-i)++Builtin.zeroCells z.cells (G-(n+1))) (ρ.t 9))).drew.setCells w.heap.size (i*k) vs).drew).setCells w.heap.size (i*k+k) (cs.drop (i*k)):=by
 have t0:=L.t0;have a0:=L.a0;have z0:=L.z0;have v0:=L.v0;have t3:=L.t3;have a3:=L.a3;have z3:=L.z3;have v3:=L.v3;have t4:=L.t4;have a4:=L.a4;have z4:=L.z4;have v4:=L.v4;have t24:=L.t24;have a24:=L.a24;have z24:=L.z24;have v24:=L.v24;have u0:=run_underlying L.t0;have u3:=run_underlying L.t3;have u4:=run_underlying L.t4;have u24:=run_underlying L.t24;obtain⟨i0,zv,hi0,his,hiz,hizc⟩:=L.i9;obtain⟨nm,og,ta,fl,el,lt,F22⟩:=L.f22;have hk0:=L.k0;have mixed:=L.mixed;have z9:∀w,(Go.sizeOf (ρ.t 9)).run P w=.ok k w:=fun w=>by simp[sizeOf,typeInfo,hi0,his]
 have hfit:=hfit i0 hi0;have hz2:¬((i:Int)=(n:Int)):=by omega
 have hz3:(c:Int)<(n:Int)+1:=by omega
 have hsz:(P.info? (ρ.t 9)).map (·.size)=some k:=by rw[hi0];simp[his]
 have hik1:i*k+k≤n*k:=by
  have:=Nat.mul_le_mul_right k (show i+1≤n by omega);rw[Nat.add_mul,Nat.one_mul]at this;exact this
 have hbw:b<w.heap.size:=block_lt_of_cell (hcs 0 _ (List.getElem?_eq_getElem (by omega)));have hvw:vb<w.heap.size:=block_lt_of_cell (hvs 0 _ (List.getElem?_eq_getElem (by omega)));have hkk:(n:Int)+1-(i:Int)=((n+1-i:Nat):Int):=by omega
 have hik:i+(n+1-i)=n+1:=by omega
 have htl:(cs.take (i*k)).length=i*k:=by rw[List.length_take];omega
 have hold:(Builtin.firstCells i0.size i (.slice (some ⟨b,off,none⟩) i c)).run P w.drew=.ok (cs.take (i*k)).toArray w.drew:=by
  rw[his]
  exact run_firstCells_some w.drew k i ⟨b,off,none⟩ i c (cs.take (i*k)) (by rw[htl]) (fun j v hj=>by
   rw[Addr.add_lit];rw[List.getElem?_take]at hj;split at hj
   ·exact hcs j v hj
   ·cases hj)
 refine⟨zv,grownCap w (n+1) c (ρ.t 9),hizc,grownCap_ge w _ _ _,?_⟩
 have hG63:grownCap w (n+1) c (ρ.t 9)≤9223372036854775807:=by
  have:=grownCap_le_maxLen w (n+1) c (ρ.t 9) (by unfold maxLen;omega);unfold maxLen at this;omega
 have hGn:=grownCap_ge w (n+1) c (ρ.t 9)
 have hrz:∀ty,(Builtin.append_ #[(ρ.t 24),(ρ.t 3)] ty #[.slice (some ⟨b,off,none⟩) i c,.int .i64 ((n:Int)+1-(i:Int))]).run P w=
   .ok (.slice (some ⟨w.heap.size,0,none⟩) (n+1) (grownCap w (n+1) c (ρ.t 9))) (w.drew.alloc (.cells ((cs.take (i*k)).toArray++Builtin.zeroCells zv.cells (n+1-i)++Builtin.zeroCells zv.cells (grownCap w (n+1) c (ρ.t 9)-(n+1))) (ρ.t 9))):=fun ty=>by
  have hf2:(n+1-i)*i0.bytes≤(n+1)*i0.bytes:=Nat.mul_le_mul_right _ (by omega);have h:=Lib.run_append_grow_zeros w (ρ.t 24) (ρ.t 3) ty (ρ.t 9) i0 _ .i64 .i64 L.t24 L.t3 hi0 hiz (some ⟨b,off,none⟩) i c (cs.take (i*k)) hold (n+1-i) (by omega) (by omega) (by omega) (by omega) (by omega) (by rw[hik];exact growslice_fits hroom hfit);rw[hik]at h;rw[hkk];exact h
 generalize grownCap w (n+1) c (ρ.t 9)=G at *
 obtain⟨ROW,hROW⟩:∃ROW:Array Value,ROW=(cs.take (i*k)).toArray++Builtin.zeroCells zv.cells (n+1-i)++Builtin.zeroCells zv.cells (G-(n+1)):=⟨_,rfl⟩;rw[←hROW]at hrz ⊢
 have hzl:∀m,(Builtin.zeroCells zv.cells m).size=m*k:=by
  intro m;simp[Builtin.zeroCells,hizc,Nat.mul_comm]
 have hnk1:(n+1-i)*k+i*k=n*k+k:=by rw[←Nat.add_mul,show n+1-i+i=n+1 from by omega,Nat.add_mul,Nat.one_mul]
 have hRl:n*k+k≤ROW.size:=by
  rw[hROW,Array.size_append,Array.size_append,hzl,hzl,List.size_toArray,htl];omega
 obtain⟨W1,hW1⟩:∃W1,W1=w.drew.alloc (.cells ROW (ρ.t 9)):=⟨_,rfl⟩;rw[←hW1]at hrz
 have hN:∀j,j<n*k+k→(W1.cell? ⟨w.heap.size,j,none⟩).isSome=true:=fun j hj=>by
  rw[hW1,World.cell?_alloc_at (w:=w.drew) ROW _ w.heap.size j rfl,Array.getElem?_eq_getElem (by omega)];rfl
 have hNf:∀j,W1.frozen? ⟨w.heap.size,j,none⟩=false:=fun j=>by rw[hW1];exact World.frozen?_alloc_at (w:=w.drew) ROW _ w.heap.size j rfl
 have hOb:∀j v,w.cell? ⟨b,j,none⟩=some v→W1.cell? ⟨b,j,none⟩=some v:=fun j v h=>by rw[hW1,World.cell?_alloc_past (w:=w.drew) _ b j hbw];exact h
 have hOv:∀j v,w.cell? ⟨vb,j,none⟩=some v→W1.cell? ⟨vb,j,none⟩=some v:=fun j v h=>by rw[hW1,World.cell?_alloc_past (w:=w.drew) _ vb j hvw];exact h
 have hmin1:Nat.min 1 (n+1-i)=1:=by simp only[Nat.min_def];split<;>omega
 have hmin2:Nat.min (n-i) (n-i)=n-i:=by simp only[Nat.min_def];split<;>omega
 have hcpA:∀(W:World),(∀x,W.cell? x=W1.cell? x)→(∀x,W.frozen? x=W1.frozen? x)→∀ty dc,(Builtin.copy_ #[(ρ.t 24),(ρ.t 24)] ty #[.slice (some ⟨w.heap.size,i*k,none⟩) (n+1-i) dc,.slice (some ⟨vb,voff,none⟩) 1 vc]).run P W=.ok (goInt ((1:Nat):Int)) (W.setCells w.heap.size (i*k) vs):=fun W hWc hWf ty dc=>by
  have h:=run_copy_k (P:=P) W (ρ.t 24) (ρ.t 24) ty (ρ.t 9) k w.heap.size (i*k) (n+1-i) dc ⟨vb,voff,none⟩ 1 vc vs L.t24 hsz (by rw[hvl,hmin1,Nat.one_mul])
   (fun j v hj=>by rw[Addr.add_lit,hWc];exact hOv _ v (hvs j v hj))
   (fun j hj=>by rw[hvl]at hj;rw[hWc];exact hN _ (by omega)) (fun j hj=>by rw[hWf];exact hNf _) h1v
  rw[hmin1]at h;exact h
 have hGi:¬(G=i):=by omega
 have hGim:¬(G=i+1):=by omega
 have hci:¬(c=i):=by omega
 have hbN:b≠w.heap.size:=by omega
 have hdl:(cs.drop (i*k)).length=(n-i)*k:=by rw[List.length_drop,hcl,Nat.sub_mul]
 have hnik:(n-i)*k+i*k=n*k:=by rw[←Nat.add_mul];congr 1;omega
 have hcpB:∀(W:World),(∀x,W.cell? x=(W1.setCells w.heap.size (i*k) vs).cell? x)→(∀x,W.frozen? x=(W1.setCells w.heap.size (i*k) vs).frozen? x)→∀ty dc sc,(Builtin.copy_ #[(ρ.t 24),(ρ.t 24)] ty #[.slice (some ⟨w.heap.size,i*k+k,none⟩) (n-i) dc,.slice (some ⟨b,off+i*k,none⟩) (n-i) sc]).run P W=.ok (goInt ((n-i:Nat):Int)) (W.setCells w.heap.size (i*k+k) (cs.drop (i*k))):=fun W hWc hWf ty dc sc=>by
  have h:=run_copy_k (P:=P) W (ρ.t 24) (ρ.t 24) ty (ρ.t 9) k w.heap.size (i*k+k) (n-i) dc ⟨b,off+i*k,none⟩ (n-i) sc (cs.drop (i*k)) L.t24 hsz (by rw[hdl,hmin2])
   (fun j v hj=>by
    rw[Addr.add_lit,hWc,World.cell?_setCells_out _ _ _ _ _ (fun h _=>absurd h hbN),Nat.add_assoc];exact hOb _ v (hcs (i*k+j) v (by rwa [List.getElem?_drop]at hj)))
   (fun j hj=>by rw[hdl]at hj;rw[hWc];exact isSome_setCells _ _ _ _ (fun t ht=>by rw[hvl]at ht;exact hN _ (by omega)) _ (hN _ (by omega)))
   (fun j hj=>by rw[hWf,World.frozen?_setCells];exact hNf _) (fun v hv=>h1c v (List.mem_of_mem_drop hv))
  rw[hmin2]at h;exact h
 subst hW1;have hE1:∀x,((w.alloc (.cells ROW (ρ.t 9))).drew).cell? x=(w.drew.alloc (.cells ROW (ρ.t 9))).cell? x:=fun x=>rfl
 have hE2:∀x,((w.alloc (.cells ROW (ρ.t 9))).drew).frozen? x=(w.drew.alloc (.cells ROW (ρ.t 9))).frozen? x:=fun x=>rfl
 have hF1:∀x,(((w.alloc (.cells ROW (ρ.t 9))).drew.setCells w.heap.size (i*k) vs).drew).cell? x=((w.drew.alloc (.cells ROW (ρ.t 9))).setCells w.heap.size (i*k) vs).cell? x:=fun x=>rfl
 have hF2:∀x,(((w.alloc (.cells ROW (ρ.t 9))).drew.setCells w.heap.size (i*k) vs).drew).frozen? x=((w.drew.alloc (.cells ROW (ρ.t 9))).setCells w.heap.size (i*k) vs).frozen? x:=fun x=>rfl
 have hw1:IntKind.i64.wrap ((i:Int)+1)=(i:Int)+1:=by rw[IntKind.wrap_i64];omega
 have hw2:IntKind.i64.wrap ((n:Int)+1)=(n:Int)+1:=by rw[IntKind.wrap_i64];omega
 have hb1:(0:Int)≤(i:Int)+1:=by omega
 have hin:i≤n:=by omega
 have htn:((i:Int)+1).toNat=i+1:=by omega
 have hb3:(i:Int)≤(n:Int):=by omega
 clear hkk hik hold hROW hRl
 go_enter F22,Body2.n22_ntmps ρ
 go_wp2_with (first
  |(at_builtin;refine Lib.wpList_append_run _ rfl _ _ _ _ rfl _ _ rfl rfl _ _ (hrz _) ?_)
  |(at_builtin;refine wpList_copy_runI _ rfl _ _ (ρ.t 24) (ρ.t 24) rfl _ _ rfl rfl (hcpA _ hE1 hE2 _ _) ?_)
  |(at_builtin;refine wpList_copy_runI _ rfl _ _ (ρ.t 24) (ρ.t 24) rfl _ _ rfl rfl (hcpB _ (fun _=>rfl) (fun _=>rfl) _ _ _) ?_))
 go_region_law_o (refine step_copy_runI rfl _ _ (ρ.t 24) (ρ.t 24) rfl (.slice (some ⟨w.heap.size,i*k+k,none⟩) (n-i) (G-(i+1))) (.slice (some ⟨b,off+i*k,none⟩) (n-i) (c-i)) (by simp[Act.eval,Act.put,Nat.add_mul]) (by simp[Act.eval,Act.put]) (hcpB _ hF1 hF2 (ρ.t 3) (G-(i+1)) (c-i)) ?_)
 go_wp2
 go_ret
 exact⟨rfl,rfl⟩
end Go.Proofs

namespace Go.Am
def zwd7 (P:Program) (w:World) (t:TypeId) (T:Dat→Prop):Prop:=
 ∀(H:Type) (enc:TypeId×Value→H) (base:Nat) (spare:Nat→Bool) (held:Bool) (fuel:Nat) (cs:List Value) (x:DataW H×List MemPlace),
  DataW.trod enc P w base spare held fuel t cs=some x→∃D,RepD (allF w) D cs∧T D
def IsInt (k:IntKind) (D:Dat):Prop:=∃n,D=.int k n∧(Lit.int k n).wf=true
def IsBool (D:Dat):Prop:=∃b,D=.bool b
def IsStr (D:Dat):Prop:=∃s,D=.str s∧s.length≤maxLen
def IsSl (T:Dat→Prop) (D:Dat):Prop:=∃l,D=.sl l∧(∀d∈l,T d)∧l.length≤maxLen
def IsAgg (Ts:List (Dat→Prop)) (D:Dat):Prop:=∃ds:List Dat,D=.agg (ds.flatMap Dat.cells)∧ds.length=Ts.length∧∀(i:Nat) (T:Dat→Prop) (d:Dat),Ts[i]?=some T→ds[i]?=some d→T d
section
variable {P:Program} {w:World} {t e:TypeId}
theorem zub7 {k:IntKind} (ht:P.underlying t=some (.int k)):zwd7 P w t (IsInt k):=by
 intro H enc base spare held fuel cs x h;obtain⟨n,rfl,_,hw⟩:=DataW.trod_int ht h;exact⟨.int k n,by simp[RepD],n,rfl,hw⟩
theorem zie7 (ht:P.underlying t=some .string):zwd7 P w t IsStr:=by
 intro H enc base spare held fuel cs x h;obtain⟨s,rfl,_,hs⟩:=DataW.trod_string ht h;exact⟨.str s.data.toList,by simp[RepD],s.data.toList,rfl,by simpa using hs⟩
theorem zvc7 {T:Dat→Prop} (ht:P.underlying t=some (.slice e)) (hc:0<P.cellsOf e) (he:zwd7 P w e T):zwd7 P w t (IsSl T):=by
 intro H enc base spare held fuel cs x h;rcases DataW.trod_slice ht h with⟨rfl,_⟩|⟨a,len,cap,elems,rest,n,_,rfl,_,hb,hl,hm,hlen,hel,_,_⟩
 ·exact⟨.sl [],by simp[RepD],[],rfl,by simp,by simp⟩
 ·have each:∀i,i<len→∃D cs,RepD (allF w) D cs∧T D∧cs.length=P.cellsOf e∧(∀j,j<P.cellsOf e→w.cell? ((a.add (i*P.cellsOf e)).add j)=cs[j]?):=by
   intro i hi;have h1:=hel i hi;have h2:elems[i]?=some (elems[i]'(by omega)):=by simp
   rw[h2,Option.bind_eq_some_iff]at h1;obtain⟨cs',hcs,hy⟩:=h1;obtain⟨D,hD,hT⟩:=he H enc base spare held n cs' _ hy;obtain⟨_,hlen',hcell⟩:=World.cells?_some hcs;exact⟨D,cs',hD,hT,hlen',hcell⟩
  have list:∀m,m≤len→∃l:List Dat,l.length=m∧(∀d∈l,T d)∧∀i d,l[i]?=some d→∃cs,RepD (allF w) d cs∧cs.length=P.cellsOf e∧(∀j,j<P.cellsOf e→w.cell? ((a.add (i*P.cellsOf e)).add j)=cs[j]?):=by
   intro m
   induction m with
   |zero=>intro _;exact⟨[],rfl,by simp,by simp⟩
   |succ m ih=>
    intro hm';obtain⟨l,l1,l2,l3⟩:=ih (by omega);obtain⟨D,cs,d1,d2,d3,d4⟩:=each m (by omega);refine⟨l++[D],by simp[l1],fun d hd=>?_,fun i d hi=>?_⟩
    ·rcases List.mem_append.1 hd with hd|hd
     ·exact l2 d hd
     ·simp at hd;subst hd;exact d2
    ·by_cases him:i<m
     ·rw[List.getElem?_append_left (by omega)]at hi;exact l3 i d hi
     ·rw[List.getElem?_append_right (by omega)]at hi
      have:i=m:=by
       have:=(List.getElem?_eq_some_iff.1 hi).1;simp at this;omega
      subst this;simp[l1]at hi;subst hi;exact⟨cs,d1,d3,d4⟩
  obtain⟨l,l1,l2,l3⟩:=list len (Nat.le_refl _);refine⟨.sl l,?_,l,rfl,l2,by omega⟩;simp only[RepD];refine⟨some a,cap,by rw[l1],by omega,?_⟩;cases l with
  |nil=>exact .inl rfl
  |cons d r=>
   right
   have hspot:a.spot=none:=by
    obtain⟨cs,c1,c2,c3⟩:=l3 0 d rfl;have:=c3 0 hc;cases hs:a.spot with
    |none=>rfl
    |some sp=>
     have hcs:cs[0]?=some (cs[0]'(by omega)):=by simp
     rw[hcs]at this;unfold World.cell? at this;simp only[Addr.add]at this;split at this
     ·simp at this;rw[hs]at this;simp at this
     ·cases this
   refine⟨a.block,a.off,P.cellsOf e,by cases a;simp only at hspot;subst hspot;rfl,rowD_of fun i d hi=>?_⟩;obtain⟨cs,c1,c2,c3⟩:=l3 i d hi;refine⟨cs,c2,c1,fun j v hj=>?_⟩;have hjl:j<P.cellsOf e:=by rw[←c2];exact (List.getElem?_eq_some_iff.1 hj).1
   have:=c3 j hjl;rw[hj]at this
   have ea:(a.add (i*P.cellsOf e)).add j=⟨a.block,a.off+i*P.cellsOf e+j,none⟩:=by
    obtain⟨b,o,s⟩:=a;simp only at hspot;subst hspot;unfold Addr.add;split<;>split<;>simp_all
   rw[ea]at this;exact this
def laid (P:Program) (total:Nat):Nat→List Field→Bool
 |o,[]=>o==total
 |o,f::r=>f.offset==o&&laid P total (o+P.cellsOf f.type) r
theorem reads_fields {cs:List Value} {total:Nat} (hlen:cs.length=total):∀(fs:List Field) (Ts:List (Dat→Prop)) (o:Nat),laid P total o fs=true→fs.length=Ts.length→
  (∀(i:Nat) (f:Field) (T:Dat→Prop),fs[i]?=some f→Ts[i]?=some T→∃D,RepD (allF w) D ((cs.drop f.offset).take (P.cellsOf f.type))∧T D)→
  ∃ds:List Dat,AggD (allF w) (ds.flatMap Dat.cells) (cs.drop o)∧ds.length=Ts.length∧∀(i:Nat) (T:Dat→Prop) (d:Dat),Ts[i]?=some T→ds[i]?=some d→T d
 |[],[],o,h,_,_=>by
  simp only[laid,beq_iff_eq]at h;refine⟨[],?_,rfl,by simp⟩;rw[List.drop_of_length_le (by omega)];simp[AggD]
 |[],T::Ts,o,h,hl,_=>by simp at hl
 |f::fs,[],o,h,hl,_=>by simp at hl
 |f::fs,T::Ts,o,h,hl,he=>by
  simp only[laid,Bool.and_eq_true,beq_iff_eq]at h;obtain⟨h1,h2⟩:=h;obtain⟨ds,e1,e2,e3⟩:=reads_fields hlen fs Ts _ h2 (by simpa using hl) fun i f' T' hi hT=>he (i+1) f' T' (by simpa using hi) (by simpa using hT)
  obtain⟨D,d1,d2⟩:=he 0 f T rfl rfl;refine⟨D::ds,?_,by simp[e2],fun i T' d hi hd=>?_⟩
  ·rw[List.flatMap_cons];have:=(d1.cellsAgg).append e1;rw[h1]at this
   have hsplit:(cs.drop o).take (P.cellsOf f.type)++cs.drop (o+P.cellsOf f.type)=cs.drop o:=by
    rw[←List.drop_drop,List.take_append_drop]
   rwa [hsplit]at this
  ·cases i with
   |zero=>simp at hi hd;subst hi;subst hd;exact d2
   |succ i=>exact e3 i T' d (by simpa using hi) (by simpa using hd)
theorem zhc7 {fs:Array Field} {Ts:List (Dat→Prop)} (ht:P.underlying t=some (.struct fs)) (hl:laid P (P.cellsOf t) 0 fs.toList=true) (hn:fs.size=Ts.length)
  (he:∀(i:Nat) (f:Field) (T:Dat→Prop),fs[i]?=some f→Ts[i]?=some T→zwd7 P w f.type T):zwd7 P w t (IsAgg Ts):=by
 intro H enc base spare held fuel cs x h;obtain⟨xs,n,_,_,hlen,hxs,hf⟩:=DataW.trod_struct ht h
 obtain⟨ds,e1,e2,e3⟩:=reads_fields (w:=w) hlen fs.toList Ts 0 hl (by simpa using hn) fun i f T hi hT=>by
  have hi':fs[i]?=some f:=by simpa using hi
  have hlt:i<xs.length:=by rw[hxs];exact (Array.getElem?_eq_some_iff.1 hi').1
  have:=hf i f hi';rw[List.getElem?_eq_getElem hlt]at this;exact he i f T hi' hT H enc base spare held n _ _ this
 exact⟨.agg (ds.flatMap Dat.cells),by simpa[RepD]using e1,ds,rfl,e2,e3⟩
end
end Go.Am

namespace Go.Am
open Go.RowKit Go.ChangeShapes Go.WideShapes
structure ArgOK (P:Program) (t:TypeId) (T:Dat→Prop):Prop where
 rd:∀w,zwd7 P w t T
 agg:∀(w:World) (base:Nat) (v:Value),Value.okWide P w .any base t v→∀D,T D→zqc7 v=D.isAgg
 read:P.readableRec t=true
 row:t<P.types.size
def ArgsOK (P:Program):List TypeId→List (Dat→Prop)→Prop
 |[],[]=>True
 |t::ts,T::Ts=>ArgOK P t T∧ArgsOK P ts Ts
 |_,_=>False
def AllD:List (Dat→Prop)→List Dat→Prop
 |[],[]=>True
 |T::Ts,D::Ds=>T D∧AllD Ts Ds
 |_,_=>False
theorem args_read {P:Program} {H:Type} {enc:TypeId×Value→H} {w:World} {base:Nat}:∀(ts:List TypeId) (Ts:List (Dat→Prop)) (vs:List Value) (ds:List (DataW H)) (ps:List MemPlace),
  ArgsOK P ts Ts→DataW.TrodAll enc P w 0 (fun _=>true) true ts vs ds ps→(∀(j:Nat) t v,ts[j]?=some t→vs[j]?=some v→Value.okWide P w .any base t v)→
  ∃Ds:List Dat,AllD Ts Ds∧RepL (ctx0 w) (Ds.map .dat) vs
 |[],[],vs,ds,ps,_,h,_=>by
  obtain⟨rfl,rfl,rfl⟩:=trodAll_nil h;exact⟨[],trivial,rfl⟩
 |t::ts,T::Ts,vs,ds,ps,hA,h,hv=>by
  obtain⟨v,vs',d,ds',p,q,rfl,rfl,rfl,h0,hr⟩:=trodAll_cons h;obtain⟨a0,ar⟩:=hA;obtain⟨Ds,h1,h2⟩:=args_read ts Ts vs' ds' q ar hr fun j t v ht hvj=>hv (j+1) t v (by simpa using ht) (by simpa using hvj)
  obtain⟨fuel,hf⟩:=h0;obtain⟨D,d1,d2⟩:=a0.rd w H enc 0 (fun _=>true) true fuel _ _ hf;exact⟨D::Ds,⟨d2,h1⟩,v,vs',rfl,⟨d1,a0.agg w base v (hv 0 t v rfl rfl) D d2⟩,h2⟩
 |[],T::Ts,_,_,_,h,_,_=>h.elim
 |t::ts,[],_,_,_,h,_,_=>h.elim
theorem args_again {P:Program} {H:Type} {enc:TypeId×Value→H} {w w':World} (hl:laidOutB P=true) (sp:Nat→Bool):∀(ts:List TypeId) (Ts:List (Dat→Prop)) (vs:List Value) (ds:List (DataW H)) (ps:List MemPlace),
  ArgsOK P ts Ts→DataW.TrodAll enc P w 0 (fun _=>true) true ts vs ds ps→(∀p∈ps,w.sameAt w' p)→(∀p∈ps,sp p.block=true)→DataW.TrodAll enc P w' 0 sp true ts vs ds ps
 |[],[],vs,ds,ps,_,h,_,_=>by
  obtain⟨rfl,rfl,rfl⟩:=trodAll_nil h;exact trodAll_mk0
 |t::ts,T::Ts,vs,ds,ps,hA,h,hs,hp=>by
  obtain⟨v,vs',d,ds',p,q,rfl,rfl,rfl,h0,hr⟩:=trodAll_cons h;obtain⟨a0,ar⟩:=hA
  exact trodAll_cons_mk (WideElems.Trod_stays hl a0.read a0.row h0 (fun x hx=>hs x (by simp[hx])) (fun x hx=>hp x (by simp[hx])))
   (args_again hl sp ts Ts vs' ds' q ar hr (fun x hx=>hs x (by simp[hx])) (fun x hx=>hp x (by simp[hx])))
 |[],T::Ts,_,_,_,h,_,_,_=>h.elim
 |t::ts,[],_,_,_,h,_,_,_=>h.elim
theorem GrownL.same {w w':World} (h:GrownL w w') {p:MemPlace} (hb:p.block<w.heap.size):w.sameAt w' p:=by
 have hk:=h.1;cases p with
 |cell b o=>exact hk.cell hb (fun h=>h)
 |map b=>
  show w'.heap[b]?=w.heap[b]?
  have hk:=hk.2.2 b hb;split at hk
  ·rename_i c t fr c' t' fr' e1 e2;obtain⟨rfl,rfl,h3,h4⟩:=hk;have:c'=c:=Array.ext_getElem? fun j=>h4 j (fun h=>h)
   rw[e1,e2,this]
  ·rename_i e1 e2;rcases hk with hf|⟨rfl,rfl⟩
   ·exact hf.elim
   ·rw[e1,e2]
  ·exact hk
theorem post_old {P:Program} {H:Type} {enc:TypeId×Value→H} {f:Func} {s:ChangeSpec} {apart fresh handsOn again:Bool} {W W':World} {args:Array Value} {v:Value} {ds gs:List (DataW H)} {before pa pv:List MemPlace}
  (hW:DataW.Whole enc P f.params.toList s.vars apart W args.toList ds gs before)
  (h1:∀(b:Nat) (sp:Nat→Bool) (hd:Bool),DataW.TrodAll enc P W' b sp hd f.resultTypes.toList (v.resultList f.resultTypes.size) (s.fn H (ds++gs)).results [])
  (h2:∀sp:Nat→Bool,(∀p∈before,sp p.block=true)→DataW.TrodAll enc P W' 0 sp true f.params.toList args.toList (s.fn H (ds++gs)).args pa)
  (h3:∀sp:Nat→Bool,(∀p∈before,sp p.block=true)→DataW.TrodVars enc P W' sp s.vars (s.fn H (ds++gs)).vars pv)
  (h4:before=pa++pv) (h5:W.keptBut W' (·∈before)) (h6:∀a,a.block<W.heap.size→W'.frozen? a=W.frozen? a)
  (h7:∀(j:Nat) (t:TypeId) (r:Value),f.resultTypes[j]?=some t→(v.resultList f.resultTypes.size)[j]?=some r→Value.okWide P W' .any 0 t r):
  s.post enc P f apart fresh handsOn again W args v W':=by
 have lt:=hW.lt;refine⟨ds,gs,before,[],pa,pv,hW,h1 _ _ _,h2 (fun b=>decide (b<W.heap.size)) (fun p hp=>by simpa using lt p hp),h3 _ (fun p hp=>by simpa using lt p hp),World.keptBut_mono (fun p hp=>⟨hp,.inr (List.mem_append.1 (h4▸hp))⟩) h5,fun _=>?_⟩;obtain⟨_,_,_,_,_,hz,hn⟩:=hW;refine⟨h7,_,_,([]++pa)++pv,⟨[]++pa,pv,trodAll_append (h2 _ (fun _ _=>rfl)) (h1 _ _ _),h3 _ (fun _ _=>rfl),rfl,fun b off hp=>?_,fun ha=>by simpa[h4]using hn ha⟩,fun p hp _=>by simpa[h4]using hp⟩;have hp':MemPlace.cell b off∈before:=by rw[h4];simpa using hp
 rw[h6 _ (lt _ hp')];exact hz b off hp'
theorem law_contract [Glob] {P:Program} {tbl:Tab} (ht:TblOK P tbl) (hl:laidOutB P=true) {f:FuncId} {fn:Func} {s:ChangeSpec} {Ts:List (Dat→Prop)} (hA:ArgsOK P fn.params.toList Ts)
  {tb:TypeId} (htb:P.underlying tb=some .bool) (hres:fn.resultTypes=#[tb]) (hvars:s.vars=[])
  (hfn:∀(H:Type) (ds:List (DataW H)),ds.length=fn.params.size→s.fn H ds={ results:=[.lit (.bool true)],args:=ds })
  {H:Type} {enc:TypeId×Value→H} {W:World} {base:Nat} {args:Array Value} {ds gs:List (DataW H)} {before:List MemPlace}
  (hG:GlobOK (allF W)) (hrun:∀Ds,AllD Ts Ds→RepL (ctx0 W) (Ds.map .dat) args.toList→∃os',callT tbl f (Ds.map .dat) []=some (.dat (.bool true),os'))
  (hval:∀(j:Nat) t v,fn.params[j]?=some t→args[j]?=some v→Value.okWide P W .any base t v)
  (hW:DataW.Whole enc P fn.params.toList s.vars false W args.toList ds gs before):
  Calls P f args W fun e W'=>∃v,e=.returned v∧s.post enc P fn false true false false W args v W':=by
 have hW':=hW;obtain⟨p,q,hA0,hV,rfl,hfz,hnd⟩:=hW;rw[hvars]at hV;obtain⟨rfl,rfl⟩:=trodVars_none hV;obtain⟨Ds,h1,h2⟩:=args_read _ _ _ _ _ hA hA0 fun j t v ht hv=>hval j t v (by simpa using ht) (by simpa using hv)
 obtain⟨os',ho⟩:=hrun Ds h1 h2;refine (top_calls ht ho hG h2).mono fun e W1 ⟨he,hg⟩=>?_
 have hlen:∀(ts:List TypeId) (vs:List Value) (ds:List (DataW H)) (ps:List MemPlace),DataW.TrodAll enc P W 0 (fun _=>true) true ts vs ds ps→ds.length=ts.length:=by
  intro ts
  induction ts with
  |nil=>intro vs ds ps h;obtain⟨rfl,rfl,rfl⟩:=trodAll_nil h;rfl
  |cons t ts ih=>
   intro vs ds ps h;obtain⟨v,vs',d,ds',p,q,rfl,rfl,rfl,_,hr⟩:=trodAll_cons h;simp[ih _ _ _ hr]
 have hds:=hlen _ _ _ _ hA0;have hs:=hfn H ds (by rw[hds];simp);subst he;refine⟨_,rfl,post_old (pa:=p) (pv:=[]) hW' (fun b sp hd=>?_) (fun sp hsp=>?_) (fun _ _=>?_) (by simp) (World.keptBut_mono (fun _ f=>f.elim) hg.1) hg.2.1 (ok_one hres rfl (okWide_bool_mk htb _))⟩
 ·rw[List.append_nil,hs,hres];exact trodAll_cons_mk (shut_bool htb _) trodAll_mk0
 ·rw[List.append_nil,hs];exact args_again hl sp _ _ _ _ _ hA hA0 (fun x hx=>GrownL.same hg (hW'.lt x (by simpa using hx))) (fun x hx=>hsp x (by simpa using hx))
 ·rw[hvars,List.append_nil,hs];rfl
def flatW {H:Type}:DataW H→List Dat
 |.lit (.int k n)=>[.int k n]
 |.lit (.bool b)=>[.bool b]
 |.lit (.string s)=>[.str s]
 |.agg l=>flatWs l
 |_=>[]
 where
 flatWs:List (DataW H)→List Dat
  |[]=>[]
  |d::r=>flatW d++flatWs r
def ReadsV (P:Program) (w:World) (t:TypeId):Prop:=
 ∀(H:Type) (enc:TypeId×Value→H) (base:Nat) (spare:Nat→Bool) (held:Bool) (fuel:Nat) (cs:List Value) (x:DataW H×List MemPlace),
  DataW.trod enc P w base spare held fuel t cs=some x→AggD (allF w) (flatW x.1) cs
section
variable {P:Program} {w:World} {t e:TypeId}
theorem readsV_bool (ht:P.underlying t=some .bool):ReadsV P w t:=by
 intro H enc base spare held fuel cs x h;obtain⟨b,rfl,hx⟩:=DataW.trod_bool ht h;rw[hx];simp[flatW,AggD,RepD]
theorem readsV_string (ht:P.underlying t=some .string):ReadsV P w t:=by
 intro H enc base spare held fuel cs x h;obtain⟨s,rfl,hx,_⟩:=DataW.trod_string ht h;rw[hx];simp[flatW,AggD,RepD]
theorem flatWs_cons {H:Type} (d:DataW H) (r:List (DataW H)):flatW.flatWs (d::r)=flatW d++flatW.flatWs r:=rfl
theorem readsV_fields {H:Type} {F:Froz} {cs:List Value} {total:Nat} (hlen:cs.length=total):∀(fs:List Field) (o:Nat) (xs:List (DataW H×List MemPlace)),laid P total o fs=true→xs.length=fs.length→
  (∀(i:Nat) (f:Field),fs[i]?=some f→∃x,xs[i]?=some x∧AggD F (flatW x.1) ((cs.drop f.offset).take (P.cellsOf f.type)))→AggD F (flatW.flatWs (xs.map (·.1))) (cs.drop o)
 |[],o,xs,hl,hn,h=>by
  have:xs=[]:=List.eq_nil_of_length_eq_zero (by simpa using hn);subst this;simp only[laid,beq_iff_eq]at hl;have:cs.drop o=[]:=List.drop_of_length_le (by omega);rw[this];simp[flatW.flatWs,AggD]
 |f::fs,o,[],hl,hn,h=>by simp at hn
 |f::fs,o,x::xs,hl,hn,h=>by
  simp only[laid,Bool.and_eq_true,beq_iff_eq]at hl;obtain⟨h1,h2⟩:=hl;obtain⟨x',hx,hd⟩:=h 0 f rfl;simp only[List.getElem?_cons_zero,Option.some.injEq]at hx;subst hx
  have ih:=readsV_fields hlen fs (o+P.cellsOf f.type) xs h2 (by simpa using hn) fun i f' hi=>by
   have:=h (i+1) f' (by simpa using hi);simpa using this
  simp only[List.map_cons,flatWs_cons]
  have e:cs.drop o=(cs.drop o).take (P.cellsOf f.type)++cs.drop (o+P.cellsOf f.type):=by
   rw[←List.drop_drop,List.take_append_drop]
  rw[e];rw[h1]at hd;exact hd.append ih
theorem readsV_struct {fs:Array Field} (ht:P.underlying t=some (.struct fs)) (hl:laid P (P.cellsOf t) 0 fs.toList=true) (he:∀(i:Nat) (f:Field),fs[i]?=some f→ReadsV P w f.type):ReadsV P w t:=by
 intro H enc base spare held fuel cs x h;obtain⟨xs,n,_,hx,hlen,hxs,hf⟩:=DataW.trod_struct ht h;rw[hx]
 have:=readsV_fields (F:=allF w) hlen fs.toList 0 xs hl (by simpa using hxs) fun i f hi=>by
  have hi':fs[i]?=some f:=by simpa using hi
  have hlt:i<xs.length:=by rw[hxs];exact (Array.getElem?_eq_some_iff.1 hi').1
  have:=hf i f hi';rw[List.getElem?_eq_getElem hlt]at this;exact⟨xs[i],List.getElem?_eq_getElem hlt,he i f hi' H enc base spare held n _ _ this⟩
 simpa[flatW]using this
theorem zof7 {n:Nat} (ht:P.underlying t=some (.array n e)) (hc:P.cellsOf t=n*P.cellsOf e) (he:ReadsV P w e):ReadsV P w t:=by
 intro H enc base spare held fuel cs x h;obtain⟨xs,m,_,hx,hlen,hxs,hf⟩:=DataW.trod_array ht h;rw[hx]
 have key:∀(k:Nat),k≤n→AggD (allF w) (flatW.flatWs ((xs.drop (n-k)).map (·.1))) (cs.drop ((n-k)*P.cellsOf e)):=by
  intro k
  induction k with
  |zero=>
   intro _;rw[Nat.sub_zero,List.drop_of_length_le (by omega),List.drop_of_length_le (by omega)];simp[flatW.flatWs,AggD]
  |succ k ih=>
   intro hk;have ih:=ih (by omega);have hlt:n-(k+1)<xs.length:=by omega
   rw[List.drop_eq_getElem_cons hlt,List.map_cons,flatWs_cons];have h1:=hf (n-(k+1)) (by omega);rw[List.getElem?_eq_getElem hlt]at h1;have h2:=he H enc base spare held m _ _ h1
   have e1:cs.drop ((n-(k+1))*P.cellsOf e)=(cs.drop ((n-(k+1))*P.cellsOf e)).take (P.cellsOf e)++cs.drop ((n-k)*P.cellsOf e):=by
    have:(n-k)*P.cellsOf e=(n-(k+1))*P.cellsOf e+P.cellsOf e:=by
     have:n-k=n-(k+1)+1:=by omega
     rw[this,Nat.add_mul];omega
    rw[this,←List.drop_drop,List.take_append_drop]
   rw[e1];have e2:n-(k+1)+1=n-k:=by omega
   rw[e2];exact h2.append ih
 have:=key n (Nat.le_refl _);simpa[flatW]using this
end
theorem argStruct {P:Program} {t:TypeId} {fs:Array Field} {Ts:List (Dat→Prop)} (ht:P.underlying t=some (.struct fs)) (hl:laid P (P.cellsOf t) 0 fs.toList=true) (hn:fs.size=Ts.length)
  (he:∀w,∀(i:Nat) (f:Field) (T:Dat→Prop),fs[i]?=some f→Ts[i]?=some T→zwd7 P w f.type T) (hr:P.readableRec t=true) (hs:t<P.types.size):ArgOK P t (IsAgg Ts):=
 ⟨fun w=>zhc7 ht hl hn (he w),fun w base v hv D ⟨n,h,_⟩=>by obtain⟨cs,rfl,_⟩:=okWide_struct ht hv;subst h;rfl,hr,hs⟩
end Go.Am

namespace Go.Am
open Go.Proofs
variable [Glob]
def putL:Nat→List Value→Array Value→Array Value
 |_,[],c=>c
 |o,v::r,c=>putL (o+1) r (c.setIfInBounds o v)
theorem putL_get:∀(vs:List Value) (o:Nat) (c:Array Value) (k:Nat),(putL o vs c)[k]?=if o≤k∧k<o+vs.length∧k<c.size then vs[k-o]? else c[k]?
 |[],o,c,k=>by
  rw[if_neg (by simp;omega)];rfl
 |v::r,o,c,k=>by
  rw[putL,putL_get r (o+1),Array.size_setIfInBounds,Array.getElem?_setIfInBounds];by_cases h:o=k
  ·subst h;rw[if_neg (by omega),if_pos rfl];by_cases h2:o<c.size
   ·rw[if_pos h2,if_pos ⟨Nat.le_refl _,by simp,h2⟩];simp
   ·rw[if_neg h2,if_neg fun e=>h2 e.2.2];symm;simp;omega
  ·rw[if_neg h];by_cases h2:o+1≤k∧k<o+1+r.length∧k<c.size
   ·rw[if_pos h2,if_pos (by simp;omega),show k-o=(k-(o+1))+1 by omega,List.getElem?_cons_succ]
   ·rw[if_neg h2,if_neg (by simp;omega)]
theorem putL_size:∀(vs:List Value) (o:Nat) (c:Array Value),(putL o vs c).size=c.size
 |[],_,_=>rfl
 |v::r,o,c=>by rw[putL,putL_size,Array.size_setIfInBounds]
def onC (f:Array Value→Array Value):Go.Obj→Go.Obj
 |.cells c t fr=>.cells (f c) t fr
 |o=>o
theorem znf7 (b:Nat):∀(vs:List Value) (o:Nat) (w:World),w.setCells b o vs={ w with heap:=w.heap.modify b (onC (putL o vs)) }
 |[],o,w=>by
  have:(onC (putL o []))=id:=by
   funext x;cases x<;>rfl
  rw[this]
  have h:w.heap.modify b id=w.heap:=by
   apply Array.ext_getElem?;intro k;rw[Array.getElem?_modify];split
   ·cases w.heap[k]?<;>rfl
   ·rfl
  rw[h];rfl
 |v::r,o,w=>by
  rw[World.setCells,znf7 b r];unfold World.setCell;simp only
  congr 1
  apply Array.ext_getElem?;intro k;simp only[Array.getElem?_modify];split
  ·cases w.heap[k]? with
   |none=>rfl
   |some x=>cases x<;>rfl
  ·rfl
theorem setCells_two (w:World) (b o:Nat) (vs ds:List Value):(w.setCells b (o+vs.length) ds).setCells b o vs=w.setCells b o (vs++ds):=by
 simp only[znf7]
 congr 1
 apply Array.ext_getElem?;intro k;simp only[Array.getElem?_modify];split
 ·cases w.heap[k]? with
  |none=>rfl
  |some x=>
   cases x with
   |cells c t fr=>
    simp only[Option.map_some,onC]
    congr 2
    apply Array.ext_getElem?;intro j;simp only[putL_get,putL_size,List.length_append];by_cases h1:j<c.size
    ·by_cases h2:o≤j∧j<o+vs.length
     ·rw[if_pos ⟨h2.1,h2.2,h1⟩,if_pos ⟨h2.1,by omega,h1⟩,List.getElem?_append_left (by omega)]
     ·rw[if_neg (by omega)];by_cases h3:o+vs.length≤j∧j<o+vs.length+ds.length
      ·rw[if_pos ⟨h3.1,h3.2,h1⟩,if_pos ⟨by omega,by omega,h1⟩,List.getElem?_append_right (by omega)]
       congr 1;omega
      ·rw[if_neg (by omega),if_neg (by omega)]
    ·rw[if_neg (by omega),if_neg (by omega),if_neg (by omega)]
   |_=>rfl
 ·rfl
theorem setCells_new (w:World) (A:Array Value) (t:TypeId) (o:Nat) (vs:List Value):(w.alloc (.cells A t)).setCells w.heap.size o vs=w.alloc (.cells (putL o vs A) t):=by
 rw[znf7];unfold World.alloc;simp only
 congr 1
 apply Array.ext_getElem?;intro k;simp only[Array.getElem?_modify,Array.getElem?_push];by_cases h:w.heap.size=k
 ·subst h;simp[onC]
 ·rw[if_neg h];have h':¬k=w.heap.size:=fun e=>h e.symm
  simp only[h',if_false]
theorem FlatD.drop {F:Froz} {sz:Nat}:∀{ds:List Dat} {cs:List Value},FlatD F sz ds cs→∀n,FlatD F sz (ds.drop n) (cs.drop (n*sz))
 |[],cs,h,n=>by simp only[FlatD]at h;subst h;simp[FlatD]
 |d::r,cs,h,0=>by simpa using h
 |d::r,cs,h,n+1=>by
  simp only[FlatD]at h;obtain⟨c,cs',rfl,h1,h2,h3⟩:=h;have:=h3.drop n;rw[List.drop_succ_cons,show (n+1)*sz=c.length+n*sz by rw[Nat.add_mul,h1];omega,←List.drop_drop,List.drop_left];exact this
def insD (es:List Dat) (i:Nat) (d:Dat):List Dat:=es.take i++d::es.drop i
theorem insD_len {es:List Dat} {i:Nat} {d:Dat} (hi:i≤es.length):(insD es i d).length=es.length+1:=by
 simp[insD];omega
theorem insD_flat {F:Froz} {k:Nat} {es:List Dat} {old vs:List Value} {d:Dat} (h1:FlatD F k es old) (h2:FlatD F k [d] vs) (i:Nat):FlatD F k (insD es i d) (old.take (i*k)++(vs++old.drop (i*k))):=by
 have:=(h1.take i).append (h2.append (h1.drop i));simpa[insD]using this
section
variable {B:Base} {C:Ctx} {id:Id} {k ver n i c:Nat} {es0:List Dat} {d:Dat} {p:Option Addr} {old vs:List Value}
theorem ins_in (hI:Inv B C) (hρ:C.ρ id=some (.arr k ver false es0)) (hn:n≤es0.length) (hi:i≤n) (hc:n+1≤c) (g3:(C.μ id).n=c*k) (a5:0<c→p.isSome=true) (g4:0<c→p=some ⟨(C.μ id).b,(C.μ id).o,none⟩)
  (r1:FlatD C.F k (es0.take n) old) (r2:∀(j:Nat) (v:Value),old[j]?=some v→C.w.cell? ⟨(C.μ id).b,(C.μ id).o+j,none⟩=some v) (s1:FlatD C.F k [d] vs):
  Owes B C (.rsl id (ver+1) k 0 (n+1)) [(id,.arr k (ver+1) false (insD (es0.take n) i d))] (.slice p (n+1) c) (C.w.setCells (C.μ id).b ((C.μ id).o+i*k) (vs++old.drop (i*k))):=by
 obtain⟨o1,_,_,_⟩:=hI.objs id _ hρ;have hel:(es0.take n).length=n:=by simp;omega
 have hol:old.length=n*k:=by rw[r1.length,hel]
 have hvl:vs.length=k:=by rw[s1.length];simp
 have hik:i*k≤n*k:=Nat.mul_le_mul_right k hi;have hnk:(n+1)*k≤c*k:=Nat.mul_le_mul_right k hc;have hnk1:(n+1)*k=n*k+k:=by rw[Nat.add_mul,Nat.one_mul]
 have hfit:i*k+(vs++old.drop (i*k)).length≤(C.μ id).n:=by
  rw[List.length_append,List.length_drop,hol,hvl,g3];omega
 have hfl:=insD_flat r1 s1 i;have hil:(insD (es0.take n) i d).length=n+1:=by rw[insD_len (by omega),hel]
 have htl:(old.take (i*k)).length=i*k:=by rw[List.length_take];omega
 have hw:=hI.write hρ rfl (i*k) (vs++old.drop (i*k)) (ob':=.arr k (ver+1) false (insD (es0.take n) i d)) hfit ⟨Nat.le_succ _,fun e=>by omega⟩ (fun C' e1 e2 hg ho'=>by
  refine⟨o1,⟨c,g3,by omega⟩,fun _=>⟨ho',fun t dt ht=>?_⟩,fun e=>by cases e⟩;have hwc:=znd7 hI hρ rfl hfit;obtain⟨u,q1,q2,q3⟩:=hfl.get ht;refine⟨u,q1,RepD.mono hg.F _ _ q2,fun j v hj=>?_⟩;have q4:=q3 j v hj;rw[e1,Nat.add_assoc,hwc];by_cases hx:i*k≤t*k+j
  ·rw[List.getElem?_append_right (by rw[htl];exact hx),htl]at q4;have:=(List.getElem?_eq_some_iff.1 q4).1;rw[if_pos ⟨hx,by omega⟩];exact q4
  ·rw[List.getElem?_append_left (by rw[htl];omega),List.getElem?_take,if_pos (by omega)]at q4;rw[if_neg (by omega)];exact r2 _ _ q4)
 simp only at hw;refine⟨_,rfl,rfl,hw.1,hw.2,?_⟩;simp only[RepA];refine⟨⟨ver+1,k,(insD (es0.take n) i d).length,C.μ id⟩,p,c,by simp[arrAt,updL],Nat.le_refl _,rfl,hc,a5,fun _=>⟨rfl,by show 0+(n+1)≤(insD (es0.take n) i d).length;omega,by simpa using g3,by simpa using g4⟩⟩
theorem ins_out (hI:Inv B C) (hρ:C.ρ id=some (.arr k ver false es0)) (hk:0<k) (hn:n≤es0.length) (hi:i≤n) {G:Nat} (hG:n+1≤G) {ROW:Array Value} (hR:ROW.size=G*k) (hR0:∀j,j<i*k→ROW[j]?=old[j]?)
  (r1:FlatD C.F k (es0.take n) old) (s1:FlatD C.F k [d] vs) (t:TypeId):
  Owes B C (.rsl id (ver+1) k 0 (n+1)) [(id,.arr k (ver+1) false (insD (es0.take n) i d))] (.slice (some ⟨C.w.heap.size,0,none⟩) (n+1) G) (C.w.alloc (.cells (putL (i*k+k) (old.drop (i*k)) (putL (i*k) vs ROW)) t)):=by
 have hel:(es0.take n).length=n:=by simp;omega
 have hol:old.length=n*k:=by rw[r1.length,hel]
 have hvl:vs.length=k:=by rw[s1.length];simp
 have hik:i*k≤n*k:=Nat.mul_le_mul_right k hi;have hnk:(n+1)*k≤G*k:=Nat.mul_le_mul_right k hG;have hnk1:(n+1)*k=n*k+k:=by rw[Nat.add_mul,Nat.one_mul]
 have hfl:=insD_flat r1 s1 i;have hil:(insD (es0.take n) i d).length=n+1:=by rw[insD_len (by omega),hel]
 have htl:(old.take (i*k)).length=i*k:=by rw[List.length_take];omega
 have hnv:zwa7 C.ρ id=some (ver+1):=by simp[zwa7,hρ]
 have hcells:(putL (i*k+k) (old.drop (i*k)) (putL (i*k) vs ROW)).toList.take ((n+1)*k)=old.take (i*k)++(vs++old.drop (i*k)):=by
  apply List.ext_getElem?;intro j;rw[List.getElem?_take];by_cases hj:j<(n+1)*k
  ·rw[if_pos hj,Array.getElem?_toList,putL_get,putL_size,List.length_drop,hol,putL_get,hvl,hR];by_cases h1:j<i*k
   ·rw[if_neg (by omega),if_neg (by omega),List.getElem?_append_left (by omega),List.getElem?_take,if_pos h1];exact hR0 j h1
   ·rw[List.getElem?_append_right (by omega),htl];by_cases h2:j<i*k+k
    ·rw[if_neg (by omega),if_pos ⟨by omega,h2,by omega⟩,List.getElem?_append_left (by omega)]
    ·rw[if_pos ⟨by omega,by omega,by omega⟩,List.getElem?_append_right (by omega),hvl]
     congr 1;omega
  ·rw[if_neg hj,List.getElem?_eq_none];simp only[List.length_append,List.length_drop,htl,hvl,hol];omega
 have hnew:=arr_new hI (id:=id) (nv:=ver+1) hnv hk (ds:=insD (es0.take n) i d) (cs:=putL (i*k+k) (old.drop (i*k)) (putL (i*k) vs ROW)) G ⟨_,by rw[hil,hcells];exact hfl,by rw[putL_size,putL_size,hR],rfl⟩ (by omega) t;rw[hil]at hnew;exact hnew
end
theorem Owes.grow_from {B:Base} {C C1:Ctx} {v:AVal} {upd:List (Id×Obj)} {val:Value} {w':World} (hg:Grow C C1) (hρ:C1.ρ=C.ρ) (h:Owes B C1 v upd val w'):Owes B C v upd val w':=by
 obtain⟨C',h1,h2,h3,h4,h5⟩:=h;exact⟨C',h1,by rw[h2,hρ],h3,hg.trans h4,h5⟩
theorem shape_of {w:World} {b o:Nat} {v:Value} (h:w.cell? ⟨b,o,none⟩=some v):∃t n,w.shape? b=some (t,n)∧o<n:=by
 unfold World.cell? at h;unfold World.shape?;cases e:w.heap[b]? with
 |none=>simp[e]at h
 |some x=>
  cases x with
  |cells c t fr=>
   simp[e]at h;exact⟨t,c.size,rfl,(Array.getElem?_eq_some_iff.1 h).1⟩
  |_=>simp[e]at h
theorem ins_ov {P:Program} {ρ:Go.Shelf.Ren} {k:Nat} (L:InsL P ρ k) (w:World) (b o b2 o2 c l2 c2:Nat) (hl2:0<l2) (hap:∀j j',j<k→j'<l2*k→¬(b=b2∧o+j=o2+j')) {v v2:Value} (h1:w.cell? ⟨b,o,none⟩=some v) (h2:w.cell? ⟨b2,o2,none⟩=some v2)
  (hf:∀x,w.frozen? ⟨b,x,none⟩=false):(callFunc (ρ.f 29) #[.slice (some ⟨b,o,none⟩) 1 c,.slice (some ⟨b2,o2,none⟩) l2 c2]).run P w=.ok (.value (.bool false)) w:=by
 obtain⟨i0,zv,hi0,his,_,_⟩:=L.i9;have hz:∀w,(Go.sizeOf (ρ.t 9)).run P w=.ok k w:=fun w=>by simp[sizeOf,typeInfo,hi0,his]
 have hk:=L.k0;rw[L.ov];by_cases hb:b=b2
 ·subst hb;have hkl:0<l2*k:=Nat.mul_pos hl2 hk
  have hno:¬(o<o2+l2*k∧o2<o+k):=by
   rintro⟨g1,g2⟩;by_cases h:o≤o2
   ·exact hap (o2-o) 0 (by omega) hkl ⟨rfl,by omega⟩
   ·exact hap 0 (o-o2) hk (by omega) ⟨rfl,by omega⟩
  have h0:¬l2=0:=by omega
  have hk0:¬k=0:=by omega
  have hd:(decide (o<o2+l2*k)&&decide (o2<o+k))=false:=by
   rw[Bool.and_eq_false_iff];by_cases h:o<o2+l2*k
   ·right;simp;omega
   ·left;simp;omega
  have ho:(Extern.SlicesOverlaps.overlaps #[ρ.t 24,ρ.t 24] #[ρ.t 4] #[.slice (some ⟨b,o,none⟩) 1 c,.slice (some ⟨b,o2,none⟩) l2 c2]).run P w=.ok (.bool false) w:=by
   conv=>
    lhs
    arg 2
    whnf
   have hb:∀{α β:Type} (x:α) (f:α→Sem β),(pure x:Sem α).bind f=f x:=fun _ _=>rfl
   have hp:∀{α β:Type} (x:α) (f:α→Sem β),(Sem.pure x:Sem α).bind f=f x:=fun _ _=>rfl
   simp[Sem.run,hb,hp,L.t24,hz,h0,hk0,frozen,hd]
  rw[ho];rfl
 ·obtain⟨tA,kA,s1,s2⟩:=shape_of h1;obtain⟨tB,kB,s3,s4⟩:=shape_of h2;rw[Go.Lib.run_overlaps_apart w (ρ.t 24) (ρ.t 4) (ρ.t 9) L.t24 k hz ⟨b,o,none⟩ ⟨b2,o2,none⟩ 1 c l2 c2 hb tA tB kA kB s1 s3 (by omega) (hf _) (hf _)];rfl
theorem ins_flat {P:Program} {ρ:Go.Shelf.Ren} {k:Nat} (L:InsL P ρ k) {q:TI} (hq:tI P (ρ.t 9)=some q) (hqk:q.size=k) (hok:∃l,q.zero=some l∧l.length=q.size)
  {B:Base} {C:Ctx} (hI:Inv B C) {id id2:Id} {ver ver2 n i:Nat} {es0 es2:List Dat} {d:Dat} {v1 v2:Value}
  (hne:id≠id2) (hρ:C.ρ id=some (.arr k ver false es0)) (hρ2:C.ρ id2=some (.arr k ver2 false es2))
  (h1:RepA C (.rsl id ver k 0 n) v1) (h2:RepA C (.rsl id2 ver2 k 0 1) v2) (hn:n≤es0.length) (hd:es2[0]?=some d) (hi:i≤n) (hroom:(n+1)*(q.bytes+1)≤room):
  Calls P (ρ.f 22) #[v1,.int .i64 i,v2] C.w fun e w'=>∃val,e=.returned val∧Owes B C (.rsl id (ver+1) k 0 (n+1)) [(id,.arr k (ver+1) false (insD (es0.take n) i d))] val w':=by
 have hk:=L.k0;obtain⟨o1,_,o3,_⟩:=hI.objs id _ hρ;obtain⟨oown,oel0⟩:=o3 rfl;obtain⟨_,_,p3,_⟩:=hI.objs id2 _ hρ2;obtain⟨pown,pel0⟩:=p3 rfl;have hdis:=hI.disj id id2 _ _ hρ hρ2 rfl rfl hne;have h2':=h2;simp only[RepA]at h1 h2;obtain⟨A,p,c,a1,a2,rfl,a4,a5,a6⟩:=h1;have hA:A=⟨ver,k,es0.length,C.μ id⟩:=by simpa[arrAt,hρ]using a1.symm
 subst hA;obtain⟨g1,g2,g3,g4⟩:=a6 rfl;simp only[Nat.zero_add,Nat.zero_mul,Nat.add_zero]at g3 g4;obtain⟨A2,pp,vc,b1,b2,rfl,b4,b5,b6⟩:=h2;have hA2:A2=⟨ver2,k,es2.length,C.μ id2⟩:=by simpa[arrAt,hρ2]using b1.symm
 subst hA2;obtain⟨f1,f2,f3,f4⟩:=b6 rfl;simp only[Nat.zero_add,Nat.zero_mul,Nat.add_zero]at f3 f4;obtain rfl:=f4 (by omega)
 have hvck:k≤(C.μ id2).n:=by
  rw[f3]
  calc k=1*k:=by omega
   _≤vc*k:=Nat.mul_le_mul_right k b4
 obtain⟨old,r1,r2⟩:=flat_of (F:=C.F) (sz:=k) (fun j=>C.w.cell? ⟨(C.μ id).b,j,none⟩) (ds:=es0.take n) (C.μ id).o (fun i d hd=>oel0 i d (by
  rw[List.getElem?_take]at hd;split at hd
  ·exact hd
  ·cases hd))
 obtain⟨vs,s1,s2⟩:=flat_of (F:=C.F) (sz:=k) (fun j=>C.w.cell? ⟨(C.μ id2).b,j,none⟩) (ds:=[d]) (C.μ id2).o (fun i d' hd'=>pel0 i d' (by
  cases i with
  |zero=>simp at hd';subst hd';exact hd
  |succ i=>simp at hd'))
 have hel:(es0.take n).length=n:=by simp;omega
 have hol:old.length=n*k:=by rw[r1.length,hel]
 have hvl:vs.length=k:=by rw[s1.length];simp
 have hz:q.zero.isSome=true:=by obtain⟨l,hl,_⟩:=hok;simp[hl]
 have hzs:=zee7 hq hok;have hr:room=1099511627776:=rfl;have hq1:n+1≤(n+1)*(q.bytes+1):=Nat.le_mul_of_pos_right _ (by omega);have hcell:∀j,j<c*k→(∃v,C.w.cell? ⟨(C.μ id).b,(C.μ id).o+j,none⟩=some v)∧C.w.frozen? ⟨(C.μ id).b,(C.μ id).o+j,none⟩=false:=fun j hj=>⟨(oown j (by omega)).1,(oown j (by omega)).2.1 _⟩
 have hbase:p=none→n=0∧c=0:=fun e=>by
  have:¬0<c:=fun h=>by have:=a5 h;rw[e]at this;simp at this
  omega
 by_cases hin:i=n
 ·
  subst hin
  obtain⟨cs,c1,c2,c3⟩:=zye7 (P:=P) hI hk (x:=.rsl id2 ver2 k 0 1) (ds:=[d]) (by
   cases es2 with
   |nil=>simp at hd
   |cons x r=>simp at hd;subst hd;simp[srcOf,elemsOf,hρ2]) h2'
  have hcl:=c1.length;simp only[List.length_cons,List.length_nil,Nat.zero_add,Nat.one_mul]at hcl c2
  have happ:=run_app (P:=P) (argTypes:=#[ρ.t 24,ρ.t 24]) (ty:=ρ.t 24) (w:=C.w) (base:=p) (len:=i) (cap:=c) (b:=(C.μ id).b) (p:=(C.μ id).o) (x:=.slice (some ⟨(C.μ id2).b,(C.μ id2).o,none⟩) 1 vc) (n:=1) (old:=old) (news:=cs) rfl rfl L.t24 (.inl ⟨_,L.t24⟩) hq hz c2
   (fun w' hw'=>by
    have:=c3 1 (by simp) w' hw';rw[List.take_of_length_le (by rw[hcl];omega)]at this;rw[hqk];exact this) (by rw[hcl,hqk];omega) c1.one g4 a4 (by rw[hol,hqk]) r2 (fun h j hj=>by rw[hqk]at hj;exact hcell j hj) hroom (by omega) hzs
  rcases happ with⟨t1,t2,t3⟩|⟨cap',out,t1,t2,t3,t4⟩
  ·have hw:=ins_in hI hρ hn (Nat.le_refl i) t1 g3 a5 g4 r1 r2 c1;rw[List.drop_of_length_le (by rw[hol];exact Nat.le_refl _),List.append_nil]at hw;rw[hqk]at t3;exact (ins_end L p i c _ _ vc C.w hbase _ _ t3 a4 (by omega)).mono fun e w'' ⟨h1,h2⟩=>⟨_,h1,by rw[h2];exact hw⟩
  ·obtain⟨I1,G1⟩:=hI.drew;rw[hqk]at t2 t3;have hnv:zwa7 C.ρ id=some (ver+1):=by simp[zwa7,hρ]
   have hil:insD (es0.take i) i d=es0.take i++[d]:=by
    simp only[insD];rw[List.take_of_length_le (by omega),List.drop_of_length_le (by omega)]
   have hnew:=arr_new I1 (id:=id) (nv:=ver+1) hnv o1 (ds:=es0.take i++[d]) (cs:=out) cap' ⟨out,by
    rw[List.length_append,hel,show ([d]:List Dat).length=1 from rfl,t3];exact r1.append c1,t2,rfl⟩ (by rw[List.length_append,hel];exact t1) (ρ.t 9)
   rw[←hil,insD_len (by omega),hel]at hnew;exact (ins_end L p i c _ _ vc C.w hbase _ _ t4 a4 (by omega)).mono fun e w'' ⟨h1,h2⟩=>⟨_,h1,by rw[h2];exact hnew.grow_from G1 rfl⟩
 ·have hlt:i<n:=by omega
  have hpb:p=some ⟨(C.μ id).b,(C.μ id).o,none⟩:=g4 (by omega);have h1c:=r1.one;have h1v:=s1.one
  have hik:i*k+k≤n*k:=by
   have:=Nat.mul_le_mul_right k (show i+1≤n by omega)
   rwa [Nat.add_mul,Nat.one_mul]at this
  obtain⟨I1,G1⟩:=hI.drew;by_cases hroomc:n+1≤c
  ·have hnk:(n+1)*k≤c*k:=Nat.mul_le_mul_right k hroomc;rw[Nat.add_mul,Nat.one_mul]at hnk;have hni:(n-i)*k+i*k=n*k:=by rw[←Nat.add_mul];congr 1;omega
   obtain⟨u1,hu1⟩:=(pown 0 (by omega)).1;obtain⟨u2,hu2⟩:=(oown (i*k+k) (by omega)).1
   have hsh:=ins_shift L (C.μ id).b (C.μ id).o n c i (C.μ id2).b (C.μ id2).o vc old vs C.w hlt hroomc (by omega)
    (ins_ov L C.w _ _ _ _ vc _ _ (by omega) (fun j j' hj hj' hh=>hdis (i*k+k+j') j (by omega) (by omega) ⟨hh.1.symm,by omega⟩) hu1 hu2 (pown 0 (by omega)).2.1)
    (fun j j' hj hj' hh=>hdis j' j (by omega) (by omega) ⟨hh.1.symm,by omega⟩) hol hvl r2 (fun j hj=>by obtain⟨v,hv⟩:=(hcell j hj).1;rw[hv];rfl) (fun j hj=>(hcell j hj).2) s2 h1c h1v
   have hw:=ins_in I1 (C:={ C with w:=C.w.drew }) hρ hn hi hroomc g3 a5 g4 r1 r2 s1;subst hpb;refine hsh.mono fun e w'' ⟨h1,h2⟩=>⟨_,h1,?_⟩
   rw[h2,←hvl,show (C.μ id).o+(i*vs.length+vs.length)=(C.μ id).o+i*vs.length+vs.length by omega,setCells_two];rw[hvl];exact hw.grow_from G1 rfl
  ·obtain⟨z,G,z1,z2,z3⟩:=ins_grow L (C.μ id).b (C.μ id).o n c i (C.μ id2).b (C.μ id2).o vc old vs C.w hlt a4 (by omega) (fun i0 hi0=>by
    obtain⟨i',_,e1,_,_,e2,_⟩:=tI_info hq;rw[hi0]at e1;obtain rfl:=Option.some.inj e1;have:(n+1)*i0.bytes≤(n+1)*(q.bytes+1):=Nat.mul_le_mul_left _ (by omega);omega) (by omega) hol hvl r2 s2 h1c h1v
   obtain⟨I2,G2⟩:=I1.drew;have htl:(old.take (i*k)).length=i*k:=by rw[List.length_take];omega
   have hw:=ins_out I2 (C:={ C with w:=C.w.drew.drew }) hρ hk hn hi z2 (ROW:=(old.take (i*k)).toArray++Builtin.zeroCells z.cells (n+1-i)++Builtin.zeroCells z.cells (G-(n+1))) (by
    have hzl:∀m,(Builtin.zeroCells z.cells m).size=m*k:=by
     intro m;simp[Builtin.zeroCells,z1,Nat.mul_comm]
    rw[Array.size_append,Array.size_append,hzl,hzl,List.size_toArray,htl,←Nat.add_mul,←Nat.add_mul]
    congr 1;omega) (fun j hj=>by
    rw[Array.getElem?_append_left (by rw[Array.size_append,List.size_toArray,htl];omega),Array.getElem?_append_left (by rw[List.size_toArray,htl];omega)];simp[hj]) r1 s1 (ρ.t 9)
   subst hpb;refine z3.mono fun e w'' ⟨h1,h2⟩=>⟨_,h1,?_⟩
   rw[h2];have e1:((C.w.alloc (.cells ((old.take (i*k)).toArray++Builtin.zeroCells z.cells (n+1-i)++Builtin.zeroCells z.cells (G-(n+1))) (ρ.t 9))).drew.setCells C.w.heap.size (i*k) vs)=C.w.drew.alloc (.cells (putL (i*k) vs ((old.take (i*k)).toArray++Builtin.zeroCells z.cells (n+1-i)++Builtin.zeroCells z.cells (G-(n+1)))) (ρ.t 9)):=setCells_new C.w.drew _ _ _ _;rw[e1];have e2:∀X,((C.w.drew.alloc (.cells X (ρ.t 9))).drew.setCells C.w.heap.size (i*k+k) (old.drop (i*k)))=C.w.drew.drew.alloc (.cells (putL (i*k+k) (old.drop (i*k)) X) (ρ.t 9)):=fun X=>setCells_new C.w.drew.drew _ _ _ _
   rw[e2];exact hw.grow_from (G1.trans G2) rfl
end Go.Am

namespace Go.Am
open Go.Proofs
variable [Glob]
def putAll (os:List TObj):List (RId×TObj)→List TObj
 |[]=>os
 |u::us=>putAll (os.set u.1.2 u.2) us
def inPos (os:List TObj) (us:List (RId×TObj)):Bool:=us.all fun u=>u.1.1==0&&decide (u.1.2<os.length)
theorem putAll_look:∀(us:List (RId×TObj)) (os:List TObj),inPos os us=true→zpa7 (putAll os us)=updT (zpa7 os) us∧(putAll os us).length=os.length
 |[],os,_=>⟨rfl,rfl⟩
 |u::us,os,h=>by
  simp only[inPos,List.all_cons,Bool.and_eq_true,beq_iff_eq,decide_eq_true_eq]at h;obtain⟨⟨h1,h2⟩,h3⟩:=h;obtain⟨⟨a,b⟩,o⟩:=u;dsimp only at h1 h2;subst h1;obtain⟨i1,i2⟩:=putAll_look us (os.set b o) (by simpa[inPos]using h3)
  have e:zpa7 (os.set b o)=updT (zpa7 os) [((0,b),o)]:=by
   funext r;obtain⟨x,y⟩:=r;simp only[zpa7,updT];by_cases hx:x=0
   ·subst hx;simp only[if_true,List.getElem?_set,Prod.mk.injEq,true_and];by_cases hy:b=y
    ·subst hy;simp[h2]
    ·simp[hy]
   ·have hx':¬0=x:=fun e=>hx e.symm
    simp[hx,hx']
  exact⟨by rw[putAll,i1,e,←zob7];rfl,by rw[putAll,i2,List.length_set]⟩
def insK (sz bytes:Nat) (args:List AVal) (os:List TObj):Option (AVal×List TObj):=
 match args with
 |[.rsl id ver sz1 off n,.dat (.int .i64 i),.rsl id2 ver2 sz2 off2 m]=>
  match flat (zpa7 os) id,flat (zpa7 os) id2 with
  |some (.arr s1 v1 false es0),some (.arr s2 v2 false es2)=>
   match es2[0]? with
   |some d=>
    if (id≠id2∧s1=sz∧s2=sz∧sz1=sz∧sz2=sz∧v1=ver∧v2=ver2∧off=0∧off2=0∧m=1)∧n≤es0.length∧0≤i∧i≤n∧(n+1)*(bytes+1)≤room then
     match lift (zpa7 os) [(id,.arr sz (ver+1) false (insD (es0.take n) i.toNat d))]with
     |some us=>if inPos os us=true then some (.rsl id (ver+1) sz 0 (n+1),putAll os us) else none
     |none=>none
    else none
   |none=>none
  |_,_=>none
 |_=>none
theorem insK_ok {P:Program} {ρ:Go.Shelf.Ren} {k:Nat} (L:InsL P ρ k) {q:TI} (hq:tI P (ρ.t 9)=some q) (hqk:q.size=k) (hok:∃l,q.zero=some l∧l.length=q.size)
  {args:List AVal} {os:List TObj} {v:AVal} {os':List TObj} (h:insK k q.bytes args os=some (v,os')):CallOK P (ρ.f 22) args os v os':=by
 unfold insK at h;split at h;rotate_left
 ·cases h
 rename_i id ver sz1 off n i id2 ver2 sz2 off2 m;split at h;rotate_left
 ·cases h
 rename_i s1 w1 es0 s2 w2 es2 ho1 ho2;split at h;rotate_left
 ·cases h
 rename_i d hd;split at h;rotate_left
 ·cases h
 rename_i hc;obtain⟨⟨hne,rfl,rfl,rfl,rfl,rfl,rfl,rfl,rfl,rfl⟩,hn,hi0,hi,hroom⟩:=hc;split at h;rotate_left
 ·cases h
 rename_i us hus;split at h;rotate_left
 ·cases h
 rename_i hin;simp only[Option.some.injEq,Prod.mk.injEq]at h;obtain⟨rfl,rfl⟩:=h;intro C vals hρ hG hI hr;obtain⟨i,rfl⟩:=Int.eq_ofNat_of_zero_le hi0;simp only[RepL]at hr;obtain⟨v1,_,e1,r1,v2,_,e2,r2,v3,_,e3,r3,e4⟩:=hr;subst e4 e3 e2
 have hv:vals=#[v1,v2,v3]:=by
  apply Array.ext';rw[e1]
 subst hv
 have hv2:v2=.int .i64 i:=by
  simp only[RepA,RepV,RepD]at r2;have:=r2.2;have h3:=zva7 (v:=v2) (by simpa[Dat.isAgg]using this);rw[h3]at r2;simpa using r2.1
 subst hv2;have hρ1:=(congrFun hρ id).trans ho1;have hρ2:=(congrFun hρ id2).trans ho2;refine (ins_flat L hq hqk hok hI hne hρ1 hρ2 r1 r3 hn hd (by omega) hroom).mono fun e w' hp=>?_
 obtain⟨val,rfl,C1,h1,h2,h3,h4,h5⟩:=hp;rw[hρ]at h2;obtain⟨C2,g1,g2,g3,g4,g5⟩:=lift_ok h3 h2 hus;obtain⟨p1,p2⟩:=putAll_look us os hin;have hg:=h4.trans g5;refine⟨val,C2,rfl,by rw[g1,h1],by rw[g3,p1],g4,h5.grow g5,⟨hg.F,fun id L _=>hg.box id L trivial,fun id A _=>hg.arr id A trivial,fun id b _=>hg.blk id b trivial⟩⟩
end Go.Am

namespace Go.Am
open Go.Proofs
variable [Glob]
def slOf:Dat→List Dat
 |.sl l=>l
 |_=>[]
def famD (ds:List Dat):List Cell:=ds.map fun d=>.d (slOf d)
theorem arr_fam {B:Base} {C:Ctx} (hI:Inv B C) {T':TLook} {r:RId} {ver pv:Nat} {ds:List Dat} (hroot:C.ρ (r,0,0)=some (.arr 1 ver false ds)) (hds:∀d∈ds,∃l,d=.sl l)
  (hk:∀j,∃sz v fz l,C.ρ (r,j+1,0)=some (.arr sz v fz l)∧v<pv) (hz:∀x y,y≠0→C.ρ (r,x,y)=none) (hT:T' r=some (.fam ver pv false (famD ds))) (ho:∀id:Id,id.1≠r→flat T' id=C.ρ id):
  ∃C':Ctx,C'.w=C.w∧C'.ρ=flat T'∧Inv B C'∧Grow C C':=by
 let C':Ctx:={ C with ρ:=flat T' }
 have hroot':C'.ρ (r,0,0)=some (.rarr 1 ver (rowsA r pv 0 (famD ds))):=by simp only[C'];rw[zfc7 hT];rfl
 have hkid':∀j,∃L,C'.ρ (r,j+1,0)=some (.arr 1 pv true L)∧L=[]:=fun j=>by
  refine⟨[],?_,rfl⟩;simp only[C'];rw[zac7 hT];cases hc:(famD ds)[j]? with
  |none=>rfl
  |some c=>
   simp only[famD,List.getElem?_map]at hc;obtain⟨d,_,rfl⟩:=zda7 hc;rfl
 have hodd':∀x y,y≠0→C'.ρ (r,x,y)=none:=fun x y hy=>zue7 ⟨_,_,_,_,hT⟩ hy
 have hoth:∀id:Id,id.1≠r→C'.ρ id=C.ρ id:=ho
 have hblk:∀id x,id.1=r→C.ρ id≠some (.blk x)∧C'.ρ id≠some (.blk x)∧(∀l,C.ρ id≠some (.box l)):=by
  rintro⟨r',x,y⟩ b rfl;by_cases hy:y=0
  ·subst hy;cases x with
   |zero=>rw[hroot,hroot'];simp
   |succ j=>
    obtain⟨sz,v,fz,l,q,_⟩:=hk j;obtain⟨L,q',_⟩:=hkid' j;rw[q,q'];simp
  ·rw[hz x y hy,hodd' x y hy];simp
 have hg:Grow C C':=by
  refine⟨fun _ _ _ h=>h,fun id L _ hb=>?_,fun id A _ ha=>?_,fun id b _ hb=>?_⟩
  ·by_cases e:id.1=r
   ·have:=(hblk id .dead e).2.2;unfold boxAt at hb;split at hb
    ·rename_i l hl;exact absurd hl (this l)
    ·cases hb
   ·unfold boxAt at hb ⊢;rw[hoth id e];exact hb
  ·by_cases e:id.1=r
   ·obtain⟨r',x,y⟩:=id;subst e;by_cases hy:y=0
    ·subst hy;cases x with
     |zero=>
      refine⟨A,?_,Nat.le_refl _,fun _=>⟨rfl,rfl,Nat.le_refl _⟩⟩;unfold arrAt at ha ⊢;rw[hroot]at ha;rw[hroot'];simpa[zia7,famD]using ha
     |succ j=>
      obtain⟨sz,v,fz,l,q,hv⟩:=hk j;obtain⟨L,q',rfl⟩:=hkid' j;have hA:A=⟨v,sz,l.length,C.μ (r',j+1,0)⟩:=by unfold arrAt at ha;rw[q]at ha;simpa using ha.symm
      subst hA;exact⟨⟨pv,1,0,C'.μ (r',j+1,0)⟩,by unfold arrAt;rw[q'];rfl,Nat.le_of_lt hv,fun e=>by simp only at e;omega⟩
    ·unfold arrAt at ha;rw[hz x y hy]at ha;cases ha
   ·refine⟨A,?_,Nat.le_refl _,fun _=>⟨rfl,rfl,Nat.le_refl _⟩⟩;unfold arrAt at ha ⊢;rw[hoth id e];exact ha
  ·by_cases e:id.1=r
   ·unfold blkAt at hb;split at hb
    ·rename_i x hx;exact absurd hx (hblk id x e).1
    ·cases hb
   ·unfold blkAt at hb ⊢;rw[hoth id e];exact hb
 refine⟨C',rfl,rfl,?_,hg⟩;refine hI.redesc rfl rfl (fun i=>i) (fun id o ho'=>?_) (fun id o ho' how=>?_) (fun _ _ _ _ _ _ _ _ e=>e) (fun id x hx=>?_)
 ·by_cases e:id.1=r
  ·obtain⟨r',x,y⟩:=id;subst e;by_cases hy:y=0
   ·subst hy;cases x with
    |zero=>
     rw[hroot']at ho';simp only[Option.some.injEq]at ho';subst ho';obtain⟨o1,⟨cap,o2,o2'⟩,o3,_⟩:=hI.objs _ _ hroot;obtain⟨oown,oel⟩:=o3 rfl;refine⟨o1,⟨cap,o2,by rw[zia7];simpa[famD]using o2'⟩,fun row hrow=>?_,fun j hj=>oown j hj,fun i row hrow j a ha=>?_⟩
     ·obtain⟨i,hi⟩:=List.getElem?_of_mem hrow;rw[zjb7]at hi;obtain⟨c,_,rfl⟩:=zda7 hi;exact⟨rfl,by simp only[List.all_cons,List.all_nil,zbd7,Bool.and_true]⟩
     ·rw[zjb7]at hrow;obtain⟨c,hc,rfl⟩:=zda7 hrow;simp only[famD,List.getElem?_map]at hc;obtain⟨d,hd,rfl⟩:=zda7 hc;cases j with
      |succ j=>simp at ha
      |zero=>
       simp at ha;subst ha;obtain⟨l,rfl⟩:=hds d (List.mem_of_getElem? hd);obtain⟨cs,q1,q2,q3⟩:=oel i _ hd
       match cs,q1 with
       |[c],_=>
        refine⟨c,q3 0 c rfl,?_⟩;simp only[cellA,slOf,RepA];exact zgb7 rfl q2
    |succ j=>
     obtain⟨L,q',rfl⟩:=hkid' j;rw[q']at ho';simp only[Option.some.injEq]at ho';subst ho';exact zod7
   ·rw[hodd' x y hy]at ho';cases ho'
  ·rw[hoth id e]at ho';exact (hI.objs id o ho').same rfl rfl hg
 ·by_cases e:id.1=r
  ·obtain⟨r',x,y⟩:=id;subst e;by_cases hy:y=0
   ·subst hy;cases x with
    |zero=>exact⟨_,hroot,rfl,rfl⟩
    |succ j=>
     obtain⟨L,q',rfl⟩:=hkid' j;rw[q']at ho';simp only[Option.some.injEq]at ho';subst ho';simp[Obj.own]at how
   ·rw[hodd' x y hy]at ho';cases ho'
  ·rw[hoth id e]at ho';exact⟨o,ho',how,rfl⟩
 ·by_cases e:id.1=r
  ·exact absurd hx (hblk id x e).2.1
  ·rw[hoth id e]at hx;exact⟨x,hx,rfl⟩
def insF (bytes:Nat) (args:List AVal) (os:List TObj):Option (AVal×List TObj):=
 match args with
 |[.rsl ((a,r),x1,y1) ver sz1 off n,.dat (.int .i64 i),.rsl ((a2,r2),x2,y2) ver2 sz2 off2 m]=>
  match (os[r]?:Option TObj),(os[r2]?:Option TObj) with
  |some (.fam v1 pv false cells),some (.plain (.arr s2 v2 false es2))=>
   match es2[0]? with
   |some (Dat.sl l)=>
    if (a=0∧a2=0∧r≠r2∧(x1,y1)=(0,0)∧(x2,y2)=(0,0)∧sz1=1∧s2=1∧sz2=1∧v1=ver∧v2=ver2∧off=0∧off2=0∧m=1)∧cells.all Cell.fresh=true∧n≤cells.length∧0≤i∧i≤n∧(n+1)*(bytes+1)≤room then
     some (.rsl ((0,r),0,0) (ver+1) 1 0 (n+1),os.set r (.fam (ver+1) (pv+1) false (famD (insD ((cells.map Cell.dat).take n) i.toNat (.sl l)))))
    else none
   |_=>none
  |_,_=>none
 |_=>none
theorem insF_ok {P:Program} {ρ:Go.Shelf.Ren} (L:InsL P ρ 1) {q:TI} (hq:tI P (ρ.t 9)=some q) (hqk:q.size=1) (hok:∃l,q.zero=some l∧l.length=q.size)
  {args:List AVal} {os:List TObj} {v:AVal} {os':List TObj} (h:insF q.bytes args os=some (v,os')):CallOK P (ρ.f 22) args os v os':=by
 unfold insF at h;split at h;rotate_left
 ·cases h
 rename_i a r x1 y1 ver sz1 off n i a2 r2 x2 y2 ver2 sz2 off2 m;split at h;rotate_left
 ·cases h
 rename_i v1 pv cells s2 v2 es2 ho1 ho2;split at h;rotate_left
 ·cases h
 rename_i l hd;split at h;rotate_left
 ·cases h
 rename_i hc;obtain⟨⟨rfl,rfl,hne,e1,e2,rfl,rfl,rfl,rfl,rfl,rfl,rfl,rfl⟩,hfr,hn,hi0,hi,hroom⟩:=hc;simp only[Prod.mk.injEq]at e1 e2;obtain⟨rfl,rfl⟩:=e1;obtain⟨rfl,rfl⟩:=e2;simp only[Option.some.injEq,Prod.mk.injEq]at h;obtain⟨rfl,rfl⟩:=h;intro C vals hρ hG hI hr;obtain⟨i,rfl⟩:=Int.eq_ofNat_of_zero_le hi0;simp only[RepL]at hr;obtain⟨w1,_,e1,r1,w2,_,e2,r2',w3,_,e3,r3,e4⟩:=hr;subst e4 e3 e2
 have hv:vals=#[w1,w2,w3]:=by
  apply Array.ext';rw[e1]
 subst hv
 have hv2:w2=.int .i64 i:=by
  simp only[RepA,RepV,RepD]at r2';have h3:=zva7 (v:=w2) (by simpa[Dat.isAgg]using r2'.2);rw[h3]at r2';simpa using r2'.1
 subst hv2;have hT:zpa7 os (0,r)=some (.fam v1 pv false cells):=by simp[zpa7,ho1]
 have hT2:zpa7 os (0,r2)=some (.plain (.arr 1 v2 false es2)):=by simp[zpa7,ho2]
 have hlt:r<os.length:=(List.getElem?_eq_some_iff.1 ho1).1;obtain⟨C2,k1,hI2,hg,hC2r,q1,q2,q3⟩:=fam_thaw hI hρ hT hfr
 have hρ2:C2.ρ ((0,r2),0,0)=some (.arr 1 v2 false es2):=by
  rw[q3 _ (by simp;exact fun e=>hne e.symm),zxa7 hT2]
 have hneq:(((0,r),0,0):Id)≠((0,r2),0,0):=by simp;exact hne
 have hcall:=ins_flat L hq hqk hok hI2 hneq hC2r hρ2 (r1.grow hg) (r3.grow hg) (by simpa using hn) hd (show i≤n by omega) hroom;rw[k1]at hcall;refine hcall.mono fun e w' hp=>?_
 obtain⟨val,rfl,C3,h1,h2,h3,h4,h5⟩:=hp;simp only[Int.toNat_natCast];generalize hN:insD ((cells.map Cell.dat).take n) i (.sl l)=ds at *
 have hds:∀d∈ds,∃l,d=Dat.sl l:=by
  intro d hd';rw[←hN]at hd'
  have hcd:∀d∈cells.map Cell.dat,∃l,d=Dat.sl l:=by
   intro d h;obtain⟨c,_,rfl⟩:=List.mem_map.1 h;cases c<;>exact⟨_,rfl⟩
  simp only[insD,List.mem_append,List.mem_cons]at hd';rcases hd' with h|rfl|h
  ·exact hcd d (List.mem_of_mem_take (List.mem_of_mem_take h))
  ·exact⟨l,rfl⟩
  ·exact hcd d (List.mem_of_mem_take (List.mem_of_mem_drop h))
 have hroot3:C3.ρ ((0,r),0,0)=some (.arr 1 (v1+1) false ds):=by rw[h2];simp[updL]
 have hoth3:∀id:Id,id≠((0,r),0,0)→C3.ρ id=C2.ρ id:=fun id hid=>by rw[h2];simp only[updL];rw[if_neg (fun e=>hid e.symm)]
 have hset:∀j o,zpa7 (os.set r o) j=if ((0,r):RId)=j then some o else zpa7 os j:=by
  intro j o;obtain⟨x,y⟩:=j;simp only[zpa7];by_cases hx:x=0
  ·subst hx;simp only[if_true,List.getElem?_set,Prod.mk.injEq,true_and];by_cases hy:r=y
   ·subst hy;simp[hlt]
   ·simp[hy]
  ·have hx':¬0=x:=fun e=>hx e.symm
   simp[hx,hx']
 obtain⟨C4,m1,m2,m3,m4⟩:=arr_fam h3 (T':=zpa7 (os.set r (.fam (v1+1) (pv+1) false (famD ds)))) (r:=(0,r)) (pv:=pv+1) hroot3 hds (fun j=>by
   rw[hoth3 _ (by simp),q1 j];obtain⟨sz,fz,l,e⟩:=zic7 pv ((cells[j]?).map Cell.freeze);exact⟨sz,pv,fz,l,by rw[e],by omega⟩) (fun x y hy=>by rw[hoth3 _ (by simp;intro _ e;exact hy e),q2 x y hy]) (by rw[hset];simp) (fun id hid=>by
   rw[hoth3 _ (fun e=>hid (by rw[e])),q3 id hid];apply zka7;rw[hset,if_neg (fun e=>hid e.symm)])
 have hgg:=(hg.trans h4).trans m4
 exact⟨val,C4,rfl,by rw[m1,h1],m2,by
  have:Inv (baseOf C) C4:=m3;exact this,h5.grow m4,⟨hgg.F,fun id L _=>hgg.box id L trivial,fun id A _=>hgg.arr id A trivial,fun id b _=>hgg.blk id b trivial⟩⟩
end Go.Am
