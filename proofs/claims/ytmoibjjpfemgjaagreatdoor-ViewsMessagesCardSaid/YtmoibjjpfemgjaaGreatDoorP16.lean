/- Parts of the proofs of the statement, joined and made short: AmRun. -/
import Derived.Test.YtmoibjjpfemgjaaGreatDoorP15
import Derived.Test.YtmoibjjpfemgjaaGreatDoorP9
import Derived.LoopNIn
import Derived.Scope
import Derived.RangeFuncRecord
set_option linter.unusedVariables false
set_option linter.unusedSimpArgs false
set_option linter.unusedSectionVars false
namespace Go.Am
variable [Glob]
theorem gE_restrict (live:List Nat) (env:Env) (t:Nat):gE (restrict live env) t=if t∈live then gE env t else .undef:=by
 induction live with
 |nil=>simp[restrict,gE]
 |cons x r ih=>
  simp only[restrict,List.map_cons,gE]at ih ⊢;by_cases e:x=t
  ·subst e;simp
  ·have e':¬t=x:=fun h=>e h.symm
   simp only[e,if_false,List.mem_cons,e',false_or];exact ih
theorem gT_zip:∀{ids:List RId} {os:List TObj},ids.length=os.length→∀(i:RId),gT (ids.zip os) i=if i∈ids then os[zyb7 ids i]? else none
 |[],os,h,i=>by simp[gT]
 |j::r,[],h,i=>by simp at h
 |j::r,o::os,h,i=>by
  simp only[List.zip_cons_cons,gT,zyb7];by_cases e:j=i
  ·subst e;simp
  ·have e':¬i=j:=fun x=>e x.symm
   rw[if_neg e,gT_zip (by simpa using h) i];simp only[List.mem_cons,e',false_or,e,if_false,List.getElem?_cons_succ]
theorem gE_map (f:AVal→AVal) (hf:f .undef=.undef):∀(env:Env) (t:Nat),gE (env.map fun p=>(p.1,f p.2)) t=f (gE env t)
 |[],t=>hf.symm
 |(x,v)::r,t=>by
  simp only[List.map_cons,gE];split
  ·rfl
  ·exact gE_map f hf r t
theorem gE_mem:∀{env:Env} {t:Nat},gE env t=.undef∨∃p∈env,p.2=gE env t
 |[],t=>.inl rfl
 |(x,v)::r,t=>by
  simp only[gE];split
  ·exact .inr ⟨(x,v),by simp,rfl⟩
  ·rcases gE_mem (env:=r) (t:=t) with h|⟨p,h1,h2⟩
   ·exact .inl h
   ·exact .inr ⟨p,by simp[h1],h2⟩
theorem gT_mem:∀{s:zsa7} {i:RId} {o:TObj},gT s i=some o→(i,o)∈s
 |[],i,o,h=>by simp[gT]at h
 |(j,o')::r,i,o,h=>by
  simp only[gT]at h;split at h
  ·rename_i e;cases h;subst e;simp
  ·simp[gT_mem h]
section
variable {P:Program} {B:Base} {C0:Ctx} {K:Orc} {n:Nat} {rd:Option Nat}
theorem Good.restrict {C:Ctx} {s:St} {a:Act} (h:Good B C0 C n s a) (live:List Nat):Good B C0 C n ⟨Am.restrict live s.env,s.objs⟩ a:=by
 refine⟨h.ρ,h.inv,⟨fun t=>?_,h.env.glob⟩,h.size,h.ext,h.defers,h.ds,h.le⟩;simp only[gE_restrict];split
 ·exact h.env.env t
 ·simp[RepA]
theorem Good.drop {C:Ctx} {s s':St} {a:Act} (h:Good B C0 C n s a) {drop:List Nat} (hd:dropE drop s=some s'):∃C',C'.w=C.w∧Good B C0 C' n s' a:=by
 unfold dropE at hd;split at hd
 ·simp only[Option.some.injEq]at hd;subst hd;exact⟨C,rfl,h⟩
 ·split at hd
  ·cases hd
  ·rename_i nm hnm;split at hd
   ·cases hd
   ·rename_i order hcol;split at hd
    ·cases hd
    ·rename_i os hos;split at hd
     ·rename_i hchk;obtain⟨hnd,hfix⟩:=hchk;simp only[Option.some.injEq]at hd;subst hd;generalize lookN nm=f at hnd hfix;obtain⟨r1,r2,r3,r4,_⟩:=zvd7 (gT s.objs) 64 _ [] order hcol (by simp) (by simp);obtain⟨g1,g2⟩:=zgf7 hos;have hlen:(order.map f).length=(os.map (TObj.tren f)).length:=by simp[g1]
      have hgo:=gT_zip hlen
      have hidx:∀{n:Nat} {i:RId},order[n]?=some i→zyb7 (order.map f) (f i)=n:=by
       intro n i hi;exact zee7 hnd (by simp[hi])
      let C':Ctx:={ C with μ:=fun j=>C.μ ((order[zyb7 (order.map f) j.1]?).getD (0,0),j.2),ρ:=flat (gT ((order.map f).zip (os.map (TObj.tren f)))) }
      have look1:∀r,r∈order→∃o,gT s.objs r=some o∧gT ((order.map f).zip (os.map (TObj.tren f))) (f r)=some (o.tren f):=by
       intro r hr;obtain⟨n,hn⟩:=List.getElem?_of_mem hr;obtain⟨o,ho,_⟩:=r4 r hr;refine⟨o,ho,?_⟩;simp only[hgo,List.mem_map_of_mem hr,if_true,hidx hn,List.getElem?_map,g2 n r hn,ho,Option.map_some]
      have fwd:∀i:Id,i.1∈order→C'.ρ (liftF f i)=(C.ρ i).map (Obj.ren (liftF f))∧C'.μ (liftF f i)=C.μ i:=by
       intro i hi;obtain⟨n,hn⟩:=List.getElem?_of_mem hi;obtain⟨o,ho,ho'⟩:=look1 i.1 hi;refine⟨?_,?_⟩
       ·simp only[C',flat,liftF,ho',h.ρ,ho];exact flatR_ren _ _ _ _ _
       ·simp only[C',liftF,hidx hn,hn,Option.getD_some]
      have back:∀j o,C'.ρ j=some o→∃(i:Id) (o1:Obj),i.1∈order∧liftF f i=j∧C.ρ i=some o1∧o=o1.ren (liftF f)∧C'.μ j=C.μ i:=by
       intro j o ho;have ho':=ho;simp only[C',flat,hgo]at ho;split at ho
       ·rename_i o' he;split at he
        ·rename_i hj;obtain⟨r,hr,hrj⟩:=List.mem_map.1 hj;have hji:liftF f (r,j.2)=j:=by rw[liftF,hrj]
         obtain⟨q1,q2⟩:=fwd (r,j.2) hr;rw[hji]at q1 q2;rw[ho']at q1;obtain⟨o1,h1,h2⟩:=zda7 q1.symm;exact⟨_,o1,hr,hji,h1,h2.symm,q2⟩
        ·cases he
       ·cases ho
      have hids:∀i:Id,i.1∈order→∀o1,C.ρ i=some o1→∀x∈o1.ids,x.1∈order:=by
       intro i hi o1 ho1 x hx;obtain⟨o,h2,h3⟩:=r4 _ hi;rw[h.ρ]at ho1;simp only[flat,h2]at ho1;rcases flatR_ids ho1 x hx with h|h
       ·exact h3 _ h
       ·rw[h];exact hi
      have hext:Ext (liftF f) (fun i=>i.1∈order) C C':=by
       refine⟨fun _ _ _ h=>h,fun id L hid hb=>?_,fun id A hid ha=>⟨A,?_,Nat.le_refl _,fun _=>⟨rfl,rfl,Nat.le_refl _⟩⟩,fun id b hid hb=>?_⟩
       ·obtain⟨q1,q2⟩:=fwd id hid;rw[(zoe7 q1 q2).1];exact hb
       ·obtain⟨q1,q2⟩:=fwd id hid;rw[(zoe7 q1 q2).2.1];exact ha
       ·obtain⟨q1,q2⟩:=fwd id hid;rw[(zoe7 q1 q2).2.2];exact hb
      refine⟨C',rfl,rfl,?_,⟨fun t=>?_,h.env.glob⟩,h.size,?_,h.defers,h.ds,h.le⟩
      ·refine⟨fun j o ho=>?_,fun j j' o o' ho ho' hw hw' hne=>?_,fun j o ho hw=>?_,fun j j' x x' hx hx' hne=>?_,fun j x hx=>?_,h.inv.kept,h.inv.Fw,h.inv.Fsub,h.inv.Fnew⟩
       ·obtain⟨i,o1,b1,b2,b3,b4,b5⟩:=back j o ho;rw[b4,b5];exact (h.inv.objs i o1 b3).ren hext rfl rfl (hids i b1 o1 b3)
       ·obtain⟨i,o1,b1,b2,b3,b4,b5⟩:=back j o ho;obtain⟨i',o1',b1',b2',b3',b4',b5'⟩:=back j' o' ho';rw[b5,b5'];rw[b4,own_ren]at hw;rw[b4',own_ren]at hw';exact h.inv.disj i i' o1 o1' b3 b3' hw hw' (fun e=>hne (by rw[←b2,←b2',e]))
       ·obtain⟨i,o1,b1,b2,b3,b4,b5⟩:=back j o ho;rw[b5];rw[b4,own_ren]at hw;exact h.inv.own i o1 b3 hw
       ·obtain⟨i,o1,b1,b2,b3,b4,b5⟩:=back j _ hx;obtain⟨i',o1',b1',b2',b3',b4',b5'⟩:=back j' _ hx';rw[b5,b5'];obtain⟨y,rfl⟩:=zse7 b4.symm;obtain⟨y',rfl⟩:=zse7 b4'.symm;exact h.inv.bdisj i i' y y' b3 b3' (fun e=>hne (by rw[←b2,←b2',e]))
       ·obtain⟨i,o1,b1,b2,b3,b4,b5⟩:=back j _ hx;rw[b5];obtain⟨y,rfl⟩:=zse7 b4.symm;exact h.inv.bown i y b3
      ·have hm:∀i∈(gE s.env t).ids,i.1∈order:=by
        intro i hi;refine r3 i.1 (List.mem_append.2 (.inr ?_));rcases gE_mem (env:=s.env) (t:=t) with e|⟨p,h1,h2⟩
        ·rw[e]at hi;simp[AVal.ids]at hi
        ·obtain⟨k,hk⟩:=List.getElem?_of_mem (List.mem_map_of_mem (f:=fun x:Nat×AVal=>x.2) h1);exact List.mem_map.2 ⟨i,idsL_get hk i (by rw[h2];exact hi),rfl⟩
       have:=RepA.ext hext (gE s.env t) _ hm (h.env.env t);have e:=gE_map (AVal.tren f) rfl s.env t;simp only[e];exact this
      ·have hin:∀(id:Id) o,id.1.1=0→C.ρ id=some o→id.1∈order∧liftF f id=id:=by
        intro id o h0 ho
        have hmem:id.1∈order:=by
         refine r3 id.1 (List.mem_append.2 (.inl ?_));rw[h.ρ]at ho;simp only[flat]at ho;split at ho
         ·rename_i o' he;rw[List.mem_filter];exact⟨List.mem_map_of_mem (f:=fun x:RId×TObj=>x.1) (gT_mem he),by simpa using h0⟩
         ·cases ho
        refine⟨hmem,?_⟩;have:=List.all_eq_true.1 hfix id.1 hmem;have:f id.1=id.1:=by simpa[h0]using this
        rw[liftF,this]
       refine⟨h.ext.F,fun id L hid hb=>?_,fun id A hid ha=>?_,fun id b hid hb=>?_⟩;rotate_left 2
       ·have h1:=h.ext.blk id b hid hb
        have hex:∃o,C.ρ id=some o:=by
         unfold blkAt at h1;cases e:C.ρ id with
         |none=>simp[e]at h1
         |some o=>exact⟨o,rfl⟩
        obtain⟨o,ho⟩:=hex;obtain⟨q1,q2⟩:=hin id o hid ho;have:=hext.blk id b q1 h1
        rwa [q2]at this
       ·have h1:=h.ext.box id L hid hb
        have hex:∃o,C.ρ id=some o:=by
         unfold boxAt at h1;cases e:C.ρ id with
         |none=>simp[e]at h1
         |some o=>exact⟨o,rfl⟩
        obtain⟨o,ho⟩:=hex;obtain⟨q1,q2⟩:=hin id o hid ho;have:=hext.box id L q1 h1
        rwa [q2]at this
       ·obtain⟨A',h1,h2,h3⟩:=h.ext.arr id A hid ha
        have hex:∃o,C.ρ id=some o:=by
         unfold arrAt at h1;cases e:C.ρ id with
         |none=>simp[e]at h1
         |some o=>exact⟨o,rfl⟩
        obtain⟨o,ho⟩:=hex;obtain⟨q1,q2⟩:=hin id o hid ho;obtain⟨A'',h4,h5,h6⟩:=hext.arr id A' q1 h1;rw[q2]at h4;refine⟨A'',h4,Nat.le_trans h2 h5,fun e=>?_⟩;obtain⟨a1,a2,a3⟩:=h3 (by omega);obtain⟨b1,b2,b3⟩:=h6 (by omega);exact⟨by rw[b1,a1],by rw[b2,a2],by omega⟩
     ·cases hd
theorem reg_sound (hS:zae7 P K) {an:Ann} {id:Nat} {ops:Array Oper} {draw:Bool} {r:AReg} (hc:cReg P n an id ops draw=some r) {s s':St} (h:runReg K r s=some s') {C:Ctx} {a:Act} (hG:Good B C0 C n s a)
  {Q:Exit→Act→World→Prop} (hQ:∀a' C',Good B C0 C' n s' a'→Q .normal a' C'.w):(Code.region id ops draw).wpIn (fR rd) 0 P Q a C.w:=by
 unfold cReg at hc;split at hc
 ·rename_i ra l hra hl;unfold runReg at h;split at h
  ·cases h
  ·rename_i s1 hdr;split at h
   ·cases h
   ·rename_i s2 lg hrun;split at h
    ·rename_i hpairs;simp only[Option.some.injEq]at h;subst h
     have hG1:∃C',C'.w=C.w∧Good B C0 C' n s1 a:=by
      exact (hG.restrict r.live).drop hdr
     obtain⟨C1,hw1,hG1⟩:=hG1;rw[←hw1];cases draw with
     |false=>
      simp only[Bool.false_eq_true,if_false,Option.some.injEq]at hc;subst hc;refine wpIn_region ?_;rw[List.range_eq_range'];exact seq_sound hS hl ops.size 0 s1 [] s2 lg C1 a (by omega) (by simpa using hrun) hG1.f fun a' C' hG'=>hQ a' C' hG'.good
     |true=>
      simp only[if_true]at hc;split at hc
      ·rename_i hchk;simp only[Bool.and_eq_true,Bool.not_eq_true']at hchk;obtain⟨⟨hm,he⟩,hcl⟩:=hchk;simp only[Option.some.injEq]at hc;subst hc;generalize hps:pairsOf ops.toList (l.map (·.1)) (befs ops.toList []) ops.size=ps at hcl hrun hpairs;obtain⟨hlen,hget⟩:=cOpers_get hl;obtain⟨alen,aget⟩:=aosOf_get (ps:=ps) (i:=0) hlen;obtain⟨outs,lgs,r1,r2,r3,r4,r5,r6⟩:=runOps_spec _ _ _ _ _ _ hrun;simp only[List.nil_append]at r2;subst r2
       have aoAt:∀i o,ops[i]?=some o→∃k gd,l[i]?=some (k,gd)∧(aosOf ps 0 ops.toList l)[i]?=some (⟨o.dst,k,gd,ps.any fun p=>p.1==i||p.2==i⟩:AO)∧cOper P n ((annOf an id).elim [] (·.marks)) ops.toList i o=some (k,gd):=by
        intro i o ho;have ho':ops.toList[i]?=some o:=by simpa using ho
        obtain⟨k,gd,h1,h2⟩:=hget i o ho';have:=aget i o k gd ho' h1;rw[Nat.zero_add]at this h2;exact⟨k,gd,h1,this,h2⟩
       have r5':=r5;have r6':=r6;rw[←slimAll_gM _ outs (gT s1.objs)]at r5';rw[←zqe7 outs (gT s1.objs)]at r6'
       have H:Drawn K P n ((annOf an id).elim [] (·.marks)) ops (aosOf ps 0 ops.toList l) (zrd7 (gT s1.objs) outs) outs (gE s1.env) (gT s1.objs):=by
        refine⟨by rw[alen];simp,fun i o ho=>?_,fun j o ho=>?_,fun j=>slimAll_fst _ _ _,fun j T' hT=>?_,fun j x hx=>?_,fun i o ho e hee=>?_,fun i j hij hj=>clashes_spec hcl i j hij hj,fun i j hij hj=>?_⟩
        ·obtain⟨k,gd,_,h2,h3⟩:=aoAt i o ho;exact⟨k,gd,_,h2,h3⟩
        ·rw[slimAll_gM,zqe7];exact (r4 j o ho).1
        ·rw[zqe7]at hT;rw[zcf7];exact slim_upd hT
        ·rw[slimAll_keys]at hx;obtain⟨u,h1,h2⟩:=List.mem_map.1 hx;exact List.mem_map.2 ⟨u,(List.mem_filter.1 h1).1,h2⟩
        ·have:=edgesOk_spec he i o (by simpa using ho) e hee;omega
        ·have hio:ops[i]?=some (ops[i]'(by omega)):=by simp
         have hjo:ops[j]?=some ops[j]:=by simp[hj]
         obtain⟨k1,g1,a1,a2,a3⟩:=aoAt i _ hio;obtain⟨k2,g2,b1,b2,b3⟩:=aoAt j _ hjo;rcases pairsOf_spec (ops:=ops.toList) (ks:=l.map (·.1)) (bs:=befs ops.toList []) i j hij hj with h|h|h
         ·exact .inl h
         ·right;rw[hps]at h;intro a b ha hb;right;have hpo:=(List.all_eq_true.1 hpairs) (i,j) h
          have la:=(r4 i a ha).2 (by
           rw[a2]at ha;cases ha;exact List.any_eq_true.2 ⟨(i,j),h,by simp⟩)
          have lb:=(r4 j b hb).2 (by
           rw[b2]at hb;cases hb;exact List.any_eq_true.2 ⟨(i,j),h,by simp⟩)
          rw[Nat.zero_add]at la lb;simp only[pairOk,la,lb]at hpo;simp only[slimAll_gM,zqe7,slimAll_keys];obtain⟨⟨⟨p1,p2⟩,p3⟩,p4⟩:=pairK_apart (fun x hx=>chgOf_sub hx) (fun x hx=>chgOf_sub hx) hpo;refine⟨fun x hx hxk=>?_,fun x hx hxk=>?_⟩
          ·rcases hx with hx|hx
           ·have:=meets_mem hx hxk;simp[this]at p3
           ·have:=meets_mem hx hxk;unfold zwc7 at hx;simp[this]at p4
          ·rcases hx with hx|hx
           ·have:=meets_mem hxk hx;simp[this]at p1
           ·have:=meets_mem hxk hx;simp[this]at p2
         ·right;intro a b ha hb;left;rw[a2]at ha;rw[b2]at hb;cases ha;cases hb;exact h k1 k2 (by simp[a1]) (by simp[b1])
       refine wpIn_region_any hm ?_
       have hG2:GoodF B C0 { C1 with w:=C1.w.drew } n (gE s1.env) (gT s1.objs) a:=by
        obtain⟨hi,hg⟩:=hG1.inv.drew;exact⟨hG1.ρ,hi,⟨fun t=>(hG1.env.env t).grow hg,hG1.env.glob.mono hg.F⟩,hG1.size,hG1.ext.thenGrow hg,hG1.defers,hG1.ds,hG1.le⟩
       have e0:∀N,gM (aosOf ps 0 ops.toList l) (zrd7 (gT s1.objs) outs) (fun i=>(Array.replicate ops.size false).getD i false) (gE s1.env) N=gE s1.env:=by
        intro N
        induction N with
        |zero=>rfl
        |succ N ih=>
         funext t
         have hf:(Array.replicate ops.size false).getD N false=false:=by
          simp only[Array.getD_eq_getD_getElem?,Array.getElem?_replicate];split<;>rfl
         simp only[gM,hf,Bool.false_eq_true,false_and,if_false,ih]
       have e1:∀N,rM (zrd7 (gT s1.objs) outs) (fun i=>(Array.replicate ops.size false).getD i false) (gT s1.objs) N=gT s1.objs:=by
        intro N
        induction N with
        |zero=>rfl
        |succ N ih=>
         have hf:(Array.replicate ops.size false).getD N false=false:=by
          simp only[Array.getD_eq_getD_getElem?,Array.getElem?_replicate];split<;>rfl
         simp only[rM,hf,Bool.false_eq_true,if_false,ih]
       have ea:(aosOf ps 0 ops.toList l).length=ops.size:=by rw[alen];simp
       refine any_sound hS H (Q:=Q) (fun a' C' hG'=>hQ a' C' ?_) ops.size (Array.replicate ops.size false) a { C1 with w:=C1.w.drew } (by simp) ?_ (by rw[e0,e1];exact hG2) (Nat.le_trans List.countP_le_length (by simp))
       ·rw[ea]at r5' r6';rw[←r5',←r6']at hG';exact hG'.good
       ·intro i o ho hf;exfalso;simp only[Array.getD_eq_getD_getElem?,Array.getElem?_replicate]at hf;split at hf<;>cases hf
      ·cases hc
    ·cases h
 ·cases hc
def toExit:AEx→Exit
 |.normal=>.normal
 |.exit id=>.exit id
 |.ret=>.ret
structure BLe (B B':Base):Prop where
 imp:∀C,Inv B' C→Inv B C
theorem BLe.refl (B:Base):BLe B B:=⟨fun _ h=>h⟩
theorem BLe.trans {A B C:Base} (h:BLe A B) (h':BLe B C):BLe A C:=⟨fun X hx=>h.imp X (h'.imp X hx)⟩
theorem Inv.rebase {C:Ctx} (hI:Inv B C) (ds:List Nat):Inv ⟨C.w,C.F,OwnSet C,OwnBlk C,ds⟩ C∧BLe B ⟨C.w,C.F,OwnSet C,OwnBlk C,ds⟩:=by
 have hM:∀b,OwnBlk C b→nc C.w b:=fun b ⟨id,x,h1,h2⟩=>by rw[←h2];exact (hI.objs id _ h1).2.nc.2
 refine⟨⟨hI.objs,hI.disj,fun id o ho how j hj=>.inl ⟨id,o,ho,how,j,hj,rfl,rfl⟩,hI.bdisj,fun id x hx=>.inl ⟨id,x,hx,rfl⟩,KeptB.reflM hM,hI.Fw,fun _ _ _ h=>h,fun _ _ _ h=>.inl h⟩,⟨fun X hX=>?_⟩⟩
 have own1:∀b x,OwnSet C b x→B.O b x∨B.w.heap.size≤b:=by
  rintro b x ⟨id,o,h1,h2,j,hj,rfl,rfl⟩;exact hI.own id o h1 h2 j hj
 have own2:∀b,OwnBlk C b→B.M b∨B.w.heap.size≤b:=by
  rintro b ⟨id,x,h1,rfl⟩;exact hI.bown id x h1
 have hsz:B.w.heap.size≤C.w.heap.size:=hI.kept.size;refine⟨hX.objs,hX.disj,fun id o ho how j hj=>?_,hX.bdisj,fun id x hx=>?_,?_,hX.Fw,fun b o v hv=>hX.Fsub _ _ _ (hI.Fsub _ _ _ hv),fun b o v hv=>?_⟩
 ·rcases hX.own id o ho how j hj with h|h
  ·exact own1 _ _ h
  ·exact .inr (Nat.le_trans hsz h)
 ·rcases hX.bown id x hx with h|h
  ·exact own2 _ h
  ·exact .inr (Nat.le_trans hsz h)
 ·refine hI.kept.trans hX.kept (fun _ _ _ h=>h) (fun b o hb h=>?_) (fun _ _ h=>h) (fun b hb h=>?_) (fun b hb h=>(hI.kept.blk b hb h).1)
  ·rcases own1 b o h with h1|h1
   ·exact h1
   ·omega
  ·rcases own2 b h with h1|h1
   ·exact h1
   ·omega
 ·rcases hX.Fnew b o v hv with h|h|h
  ·exact hI.Fnew _ _ _ h
  ·exact .inr (own1 _ _ h)
  ·exact .inr (.inr (Nat.le_trans hsz h))
theorem flat_put {T:TLook} {r:RId} {o:Obj} (h:T r=none∨∃o',T r=some (.plain o')):flat (fun j=>if r=j then some (.plain o) else T j)=updL (flat T) [((r,0,0),o)]:=by
 funext id;obtain⟨r',p,q⟩:=id;simp only[updL,flat];by_cases e:r=r'
 ·subst e;simp only[if_true,flatR];by_cases hp:p=0∧q=0
  ·obtain⟨rfl,rfl⟩:=hp;simp
  ·have:¬((r,0,0):Id)=(r,p,q):=fun x=>hp (by simp only[Prod.mk.injEq,true_and]at x;exact⟨x.1.symm,x.2.symm⟩)
   rw[if_neg hp,if_neg this];rcases h with h|⟨o',h⟩
   ·rw[h]
   ·rw[h];simp only[flatR,if_neg hp]
 ·have:¬((r,0,0):Id)=(r',p,q):=fun x=>e (by simp only[Prod.mk.injEq]at x;exact x.1)
  rw[if_neg this,if_neg e]
theorem OwnBlk.not_deferred {C:Ctx} (hI:Inv B C) {D:Nat} {ds:Option (List Deferred)} (h:C.w.heap[D]?=some (.deferred ds)):¬OwnBlk C D:=by
 rintro⟨id,x,h1,rfl⟩;have:=(hI.objs id _ h1).2;cases x with
 |map es=>obtain⟨_,_,e,_⟩:=this;rw[h]at e;cases e
 |loop k st env=>obtain⟨_,e,_⟩:=this;rw[h]at e;cases e
 |dead=>obtain⟨_,e⟩:=this;rw[h]at e;cases e
theorem zce7 {w:World} {D:Nat} {ds:Option (List Deferred)} (h:w.heap[D]?=some (.deferred ds)):nc w D:=fun c t fr e=>by rw[h]at e;cases e
theorem rf_sound (hS:zae7 P K) {C:Ctx} {s:St} {a:Act} (hG:Good B C0 C n s a) {g:Operand} {ps:Array Tmp} {avs bd:Code} {ax:AX} (hx:cX g=some ax) {k site:Nat} {caps:List Nat} (hlp:Glob.lps k=some (n,ps,avs,bd))
  {f:FuncId} {vs:List AVal} (hf:evX (gE s.env) ax=.fn f vs) (hne':¬(f=YID∨BIGF≤f)) (hlid:gT s.objs (site+1,0)=none) {v:AVal} {us:List (RId×TObj)} {objs:zsa7} (hobjs:objs=pT s.objs (site+1,0) (.plain (.blk (.loop k .ready (caps.map fun t=>(t,gE s.env t))))))
  (hcall:callE K (site+1) f ((.bref true ((site+1,0),0,0),true)::vs.map fun v=>(v,true)) false (gT objs)=some (v,us))
  {k':Nat} {st:LSt} {env':Env} (hob:gT (pTs objs us) (site+1,0)=some (.plain (.blk (.loop k' st env')))) {y:AEx} (hy:st.out=some y)
  {Q:Exit→Act→World→Prop} (hQ:∀a' C' B',BLe B B'→Good B' C0 C' n ⟨s.env,pT (pTs objs us) (site+1,0) (.plain (.blk .dead))⟩ a'→Q (toExit y) a' C'.w):(Code.rangeFunc g ps avs bd).wpIn (fR none) 0 P Q a C.w:=by
 have hne:f≠YID:=fun e=>hne' (.inl e)
 have hnb:¬BIGF≤f:=fun e=>hne' (.inr e)
 refine wpIn_rangeFunc fun fn _=>?_
 obtain⟨rc,hrc⟩:∃rc:Go.Loop,rc={ state:=.ready,pending:=none,fn,tmps:=a.tmps,params:=ps,assign:=avs,body:=bd,defers:=C.w.heap.size }:=⟨_,rfl⟩;obtain⟨i1,g1⟩:=hG.inv.plain (C':={ C with w:=C.w.alloc (.deferred (some [])) }) (Kept.allocN _ _ _ (by simp)) (fun _ _ _ h=>h) (fun _ _ _ h=>.inl h) (fun b o v hv e=>by simp only at hv;rw[e]at hv;cases hv) rfl rfl
 have hnone:({ C with w:=C.w.alloc (.deferred (some [])) }:Ctx).ρ ((site+1,0),0,0)=none:=by
  simp only[hG.ρ,flat,hlid]
 obtain⟨i2,g2,e2⟩:=i1.newBlk hnone (.loop rc) (by simp) (.loop k .ready (caps.map fun t=>(t,gE s.env t))) (fun C' e1 e2 hg=>by
  refine⟨rc,by rw[e1];exact alloc_new _ _,by rw[hrc];simp only[hG.size];exact hlp,by rw[hrc];exact⟨rfl,rfl⟩,fun p hp=>?_⟩;obtain⟨t,_,rfl⟩:=List.mem_map.1 hp;rw[hrc];exact ((hG.env.env t).grow g1).grow hg)
 generalize hC2:({ w:=(C.w.alloc (.deferred (some []))).alloc (.loop rc),F:=C.F,μ:=fun i=>if i=((site+1,0),0,0) then ⟨(C.w.alloc (.deferred (some []))).heap.size,0,0⟩ else C.μ i,ρ:=fun i=>if i=((site+1,0),0,0) then some (.blk (.loop k .ready (caps.map fun t=>(t,gE s.env t)))) else C.ρ i }:Ctx)=C2 at i2 g2 e2;have hw2:C2.w=(C.w.alloc (.deferred (some []))).alloc (.loop rc):=by rw[←hC2]
 have hρ2:C2.ρ=flat (gT objs):=by
  rw[e2,hobjs];simp only[hG.ρ];rw[←flat_put (.inl hlid)]
  congr 1
  funext j;rw[gT_pT]
 have hat2:blkAt C2 ((site+1,0),0,0)=some (C.w.heap.size+1):=by
  rw[←hC2];simp[blkAt]
 have g12:=g1.trans g2;have hgl2:GlobOK C2.F:=hG.env.glob.mono g12.F;obtain⟨i2',ble2⟩:=i2.rebase (B:=B) [];have hgv:=zea7 hG.env hx;rw[hf]at hgv;simp only[RepA]at hgv;obtain⟨cs,v1,v2⟩:=hgv;rw[if_neg hnb]at v1
 obtain⟨Cc,vs',os,rv,os',c1,c2,c3,c4,c5,c6,c7⟩:=callE_core (vals:=.func (.yield (C.w.heap.size+1)) #[] #[]::cs.toList) i2' hρ2 hgl2 (by
  simp only[List.map_cons,List.map_map,RepL];refine⟨_,_,rfl,?_,?_⟩
  ·simp only[RepA,if_true];exact⟨_,hat2,rfl⟩
  ·have:(Prod.fst∘fun v:AVal=>(v,true))=id:=rfl;rw[this,List.map_id];exact v2.grow g12) hcall
 have hc:zkb7 P f=true∧CallOK P f vs' os rv os':=by
  rcases hS _ _ _ _ _ c6 with⟨_,q⟩|⟨q,_⟩
  ·exact q
  ·exact absurd q hne
 have hD1:C2.w.heap[C.w.heap.size]?=some (.deferred (some [])):=by
  rw[hw2]
  have:((C.w.alloc (.deferred (some []))).heap.push (.loop rc))[C.w.heap.size]?=(C.w.alloc (.deferred (some []))).heap[C.w.heap.size]?:=by
   rw[Array.getElem?_push,if_neg (by simp)]
  exact this.trans (alloc_new _ _)
 refine⟨C.w.heap.size+1,[{ target:=.collected C.w.heap.size,args:=#[] }],C2.w,{ target:=.fn (.func f) cs,args:=#[.func (.yield (C.w.heap.size+1)) #[] #[]] },C2.w,f,
  #[.func (.yield (C.w.heap.size+1)) #[] #[]]++cs,C2.w,?_,?_,fun _ _=>trivial,?_,(fun h=>by cases h),?_⟩
 ·rw[hw2,hrc];exact run_enterLoop_outer _ _ _ _ _
 ·simp only[resolve,v1];simp[go_sem]
 ·have:=run_enter hc.1 C2.w (args:=#[.func (.yield (C.w.heap.size+1)) #[] #[]]++cs);simp[invoke,go_sem,this]
 ·have hcl:=hc.2 Cc (#[.func (.yield (C.w.heap.size+1)) #[] #[]]++cs) c2 c3 c4 (by simpa using c5);rw[c1]at hcl;have hcl':CallsIn (fR none) (0-1) P f (#[.func (.yield (C.w.heap.size+1)) #[] #[]]++cs) C2.w (PostOK Cc os rv os'):=callsIn_wide.2 hcl;refine hcl'.mono fun e w3 hp=>?_
  obtain⟨val,rfl,C3,k1,k2,k3,k4,k5⟩:=c7 e w3 hp;subst k1
  have hC3:C3.ρ ((site+1,0),0,0)=some (.blk (.loop k' st env')):=by
   rw[k2,←gT_pTs];simp only[flat,hob,flatR,and_self,if_true]
  have hat3:=k4.blk _ _ trivial hat2;have hb3:(C3.μ ((site+1,0),0,0)).b=C.w.heap.size+1:=by simpa[blkAt,hC3]using hat3
  obtain⟨_,r3,l1,l2,l3,l4⟩:=k3.objs _ _ hC3;rw[hb3]at l1
  have hnb:r3.state≠.busy:=by
   cases st with
   |ready=>rw[l3.1];simp
   |busy=>simp[LSt.out]at hy
   |done e=>rw[l3.1];simp
  have hend:=run_endLoop (P:=P) l1 hnb
  obtain⟨i4,g4⟩:=k3.turn hC3 (.loop { r3 with state:=.exhausted }) (by simp) .dead (fun C' e1 e2 hg=>by
   rw[hb3]at e1 ⊢;refine⟨{ r3 with state:=.exhausted },?_⟩;rw[e1];have:=(Array.getElem?_eq_some_iff.1 l1).1;simp[this])
  rw[hb3]at i4 g4;generalize hC4:({ C3 with w:={ C3.w with heap:=C3.w.heap.setIfInBounds (C.w.heap.size+1) (.loop { r3 with state:=.exhausted }) },ρ:=updL C3.ρ [(((site+1,0),0,0),.blk .dead)] }:Ctx)=C4 at i4 g4;have hw4:C4.w=C3.w.putObj (C.w.heap.size+1) (.loop { r3 with state:=.exhausted }):=by rw[←hC4];rfl
  have hρ4:C4.ρ=flat (gT (pT (pTs objs us) (site+1,0) (.plain (.blk .dead)))):=by
   have h1:C4.ρ=updL C3.ρ [(((site+1,0),0,0),.blk .dead)]:=by rw[←hC4]
   rw[h1,k2,←gT_pTs,←flat_put (.inr ⟨_,hob⟩)]
   congr 1
   funext j;rw[gT_pT]
  obtain⟨i5,ble5⟩:=i4.rebase (C.w.heap.size::B.ds);have hgr:Grow C C4:=(g12.trans k4).trans g4;have hD3:C3.w.heap[C.w.heap.size]?=some (.deferred (some [])):=k3.kept.heap hD1 (zce7 hD1) (OwnBlk.not_deferred i2 hD1)
  have hD4:C4.w.heap[C.w.heap.size]?=some (.deferred (some [])):=by
   rw[hw4,World.putObj_heap_other (by omega)];exact hD3
  have hdsB:∀D∈B.ds,C4.w.heap[D]?=some (.deferred (some []))∧C0.w.heap.size≤D:=by
   intro D hD;obtain⟨q1,q2,q3⟩:=hG.ds D hD;have hI4:=ble2.imp _ i4;exact⟨hI4.kept.heap q1 (zce7 q1) q2,q3⟩
  have hC0:C0.w.heap.size≤C.w.heap.size:=Nat.le_trans hG.le.1 hG.inv.kept.size
  have hGood:Good ⟨C4.w,C4.F,OwnSet C4,OwnBlk C4,C.w.heap.size::B.ds⟩ C0 C4 n ⟨s.env,pT (pTs objs us) (site+1,0) (.plain (.blk .dead))⟩ { a with defers:=[{ target:=.collected C.w.heap.size,args:=#[] }]++a.defers }:=by
   refine⟨hρ4,i5,⟨fun t=>(hG.env.env t).grow hgr,hG.env.glob.mono hgr.F⟩,hG.size,hG.ext.thenGrow hgr,?_,fun D hD=>?_,Nat.le_trans hC0 ?_,List.nodup_cons.2 ⟨fun hm=>?_,hG.le.2⟩⟩
   ·simp only[marks,List.map_cons,List.singleton_append,hG.defers]
   ·simp only[List.mem_cons]at hD;rcases hD with rfl|hD
    ·exact⟨hD4,OwnBlk.not_deferred i4 hD4,hC0⟩
    ·obtain⟨q1,q2⟩:=hdsB D hD;exact⟨q1,OwnBlk.not_deferred i4 q1,q2⟩
   ·have:=(Array.getElem?_eq_some_iff.1 hD4).1
    show C.w.heap.size≤C4.w.heap.size
    omega
   ·have h1:=(Array.getElem?_eq_some_iff.1 (hG.ds _ hm).1).1;have h2:=hG.inv.kept.size;omega
  have hfin:=hQ _ C4 _ (ble2.trans ble5) hGood;refine⟨r3.pending,_,hend,?_⟩;rw[hw4]at hfin;generalize C3.w.putObj (C.w.heap.size+1) (.loop { r3 with state:=.exhausted })=W at hfin ⊢;cases st with
  |ready=>
   simp only[LSt.out,Option.some.injEq]at hy;subst hy;rw[l3.2];exact hfin
  |busy=>simp[LSt.out]at hy
  |done e=>
   simp only[LSt.out,Option.some.injEq]at hy;subst hy;rw[l3.2.1];cases e with
   |normal=>exact absurd rfl l3.2.2
   |ret=>exact wpIn_ret hfin
   |exit id=>exact wpIn_exit hfin
theorem zkd7 {b:Frame} {a:Act} {k:List Item} {cs:List Frame} {w:World} {c:Code}:step P (lone (b.atR a (.code (.scope c)::k)) cs w)=.next (lone (b.atR a (.code c::.inScope c::k)) cs w):=
 step_lone_go (by simp[stepG,stepG.exec,Frame.atR])
theorem stepR_inScope {b:Frame} {a:Act} {k:List Item} {cs:List Frame} {w:World} {c:Code}:step P (lone (b.atR a (.inScope c::k)) cs w)=.next (lone (b.atR a k) cs w):=
 step_lone_go (by simp[stepG,stepG.exec,Frame.atR])
theorem wpIn_scope_straight {F:Fence} {n:Nat} {c:Code} {Q:Exit→Act→World→Prop} {a:Act} {w:World} (h:c.wpIn F n P (Exit.noGoto Q) a w):(Code.scope c).wpIn F n P Q a w:=by
 intro b k cs hro hb hr;have h0:(lone (b.atR a (.code (.scope c)::k)) cs w).fenced P F:=fenced_calm hb hr rfl;obtain⟨e,a₁,w₁,hq,harr⟩:=h b (.inScope c::k) cs hro hb hr;cases e with
 |normal=>exact⟨.normal,a₁,w₁,hq,.head h0 zkd7 (StepsIn.trans harr (.one (fenced_calm hb hr rfl) stepR_inScope))⟩
 |exit id=>
  have hx:exitTo id (.inScope c::k)=exitTo id k:=by simp[exitTo]
  exact⟨.exit id,a₁,w₁,hq,fun k' hk=>.head h0 zkd7 (harr.1 k' (by rw[hx];exact hk)),fun hr' hk=>let ⟨k₁,h1,h2⟩:=harr.2 hr' (by rw[hx];exact hk);⟨k₁,h1,.head h0 zkd7 h2⟩⟩
 |goto l=>exact hq.elim
 |ret=>exact⟨_,a₁,w₁,hq,.of_steps (.one h0 zkd7) harr⟩
 |panic ch=>exact⟨_,a₁,w₁,hq,.of_steps (.one h0 zkd7) harr⟩
 |outgrown=>exact⟨_,a₁,w₁,hq,.of_steps (.one h0 zkd7) harr⟩
theorem code_sound (hS:zae7 P K) {an:Ann}:∀{c:Code} {ac:AC},cCode P n an c=some ac→(rd=none∨rfs c=[])→(∀st∈rfs c,Glob.lps (tagOf an)=some (n,st))→∀{s s':St} {x:AEx},exec K ac s=some (x,s')→∀{B:Base} {C:Ctx} {a:Act},Good B C0 C n s a→
  ∀{Q:Exit→Act→World→Prop},(∀a' C' B',BLe B B'→Good B' C0 C' n s' a'→Q (toExit x) a' C'.w)→c.wpIn (fR rd) 0 P Q a C.w:=by
 intro c
 induction c with
 |skip=>
  intro ac hc hrd hl s s' x h B C a hG Q hQ;simp only[cCode,Option.some.injEq]at hc;subst hc;simp only[exec,Option.some.injEq,Prod.mk.injEq]at h;obtain⟨rfl,rfl⟩:=h;exact wpIn_skip (hQ a C B (.refl B) hG)
 |region id ops draw=>
  intro ac hc hrd hl s s' x h B C a hG Q hQ;simp only[cCode]at hc;cases hr:cReg P n an id ops draw with
  |none=>rw[hr]at hc;cases hc
  |some r=>
   rw[hr]at hc;simp only[Option.map_some,Option.some.injEq]at hc;subst hc;simp only[exec]at h;split at h
   ·rename_i s1 h1;simp only[Option.some.injEq,Prod.mk.injEq]at h;obtain⟨rfl,rfl⟩:=h;exact reg_sound hS hr h1 hG fun a' C' hG'=>hQ a' C' B (.refl B) hG'
   ·cases h
 |seq c1 c2 ih1 ih2=>
  intro ac hc hrd hl s s' x h B C a hG Q hQ;simp only[rfs,List.append_eq_nil_iff]at hrd;simp only[rfs,List.mem_append]at hl;have r1:rd=none∨rfs c1=[]:=hrd.imp (fun h=>h) (·.1);have r2:rd=none∨rfs c2=[]:=hrd.imp (fun h=>h) (·.2);simp only[cCode]at hc;split at hc
  ·rename_i a1 a2 h1 h2;simp only[Option.some.injEq]at hc;subst hc;simp only[exec]at h;refine wpIn_seq ?_;split at h
   ·rename_i s1 hs1;refine ih1 h1 r1 (fun st hs=>hl st (.inl hs)) hs1 hG fun a' C' B' hB hG'=>?_
    exact ih2 h2 r2 (fun st hs=>hl st (.inr hs)) h hG' fun a2 C2 B2 hB2 hG2=>hQ a2 C2 B2 (hB.trans hB2) hG2
   ·rename_i hne;refine ih1 h1 r1 (fun st hs=>hl st (.inl hs)) h hG fun a' C' B' hB hG'=>?_
    cases x with
    |normal=>exact absurd h (hne s')
    |exit id=>exact hQ a' C' B' hB hG'
    |ret=>exact hQ a' C' B' hB hG'
  ·cases hc
 |cond cx c1 c2 ih1 ih2=>
  intro ac hc hrd hl s s' x h B C a hG Q hQ;simp only[rfs,List.append_eq_nil_iff]at hrd;simp only[rfs,List.mem_append]at hl;have r1:rd=none∨rfs c1=[]:=hrd.imp (fun h=>h) (·.1);have r2:rd=none∨rfs c2=[]:=hrd.imp (fun h=>h) (·.2);simp only[cCode]at hc;split at hc
  ·rename_i ax a1 a2 hx h1 h2;simp only[Option.some.injEq]at hc;subst hc;simp only[exec]at h;split at h
   ·rename_i t ht;have hr:=zea7 hG.env hx;rw[ht]at hr;refine wpIn_cond (rep_bool hr) ?_;cases t with
    |true=>exact ih1 h1 r1 (fun st hs=>hl st (.inl hs)) h hG hQ
    |false=>exact ih2 h2 r2 (fun st hs=>hl st (.inr hs)) h hG hQ
   ·cases h
  ·cases hc
 |block id c ih=>
  intro ac hc hrd hl s s' x h B C a hG Q hQ;simp only[cCode]at hc;cases hr:cCode P n an c with
  |none=>rw[hr]at hc;cases hc
  |some r=>
   rw[hr]at hc;simp only[Option.map_some,Option.some.injEq]at hc;subst hc;simp only[exec]at h;refine wpIn_block ?_;split at h
   ·rename_i id' s1 h1;refine ih hr hrd hl h1 hG fun a' C' B' hB hG'=>?_
    simp only[toExit,Exit.inBlock];split at h
    ·rename_i e;simp only[Option.some.injEq,Prod.mk.injEq]at h;obtain⟨rfl,rfl⟩:=h;rw[if_pos e];exact hQ a' C' B' hB hG'
    ·rename_i e;simp only[Option.some.injEq,Prod.mk.injEq]at h;obtain⟨rfl,rfl⟩:=h;rw[if_neg e];exact hQ a' C' B' hB hG'
   ·rename_i hne;refine ih hr hrd hl h hG fun a' C' B' hB hG'=>?_
    cases x with
    |normal=>exact hQ a' C' B' hB hG'
    |exit id'=>exact absurd h (hne id' s')
    |ret=>exact hQ a' C' B' hB hG'
 |loop c ih=>
  intro ac hc hrd hl s s' x h B C a hG Q hQ;simp only[cCode]at hc;cases hr:cCode P n an c with
  |none=>rw[hr]at hc;cases hc
  |some r=>
   rw[hr]at hc;simp only[Option.map_some,Option.some.injEq]at hc;subst hc;simp only[exec,zga7]at h;split at h
   ·rename_i hex;simp only[Option.some.injEq]at h;have hN:=Classical.choose_spec hex;rw[h]at hN;obtain⟨N,hN⟩:=hN;refine wpIn_loop_rounds N ?_;clear hex h
    induction N generalizing s C a B with
    |zero=>simp[iter]at hN
    |succ N ihN=>
     rw[roundsIn_succ];simp only[iter]at hN;split at hN
     ·cases hN
     ·rename_i s1 h1;refine ih hr hrd hl h1 hG fun a' C' B' hB hG'=>?_
      exact ihN hG' (fun a2 C2 B2 hB2 hG2=>hQ a2 C2 B2 (hB.trans hB2) hG2) hN
     ·rename_i p hne h1;simp only[Option.some.injEq]at hN;subst hN;refine ih hr hrd hl h1 hG fun a' C' B' hB hG'=>?_
      cases x with
      |normal=>exact (hne s' rfl).elim
      |exit id=>exact hQ a' C' B' hB hG'
      |ret=>exact hQ a' C' B' hB hG'
   ·cases h
 |exit id=>
  intro ac hc hrd hl s s' x h B C a hG Q hQ;simp only[cCode,Option.some.injEq]at hc;subst hc;simp only[exec,Option.some.injEq,Prod.mk.injEq]at h;obtain⟨rfl,rfl⟩:=h;exact wpIn_exit (hQ a C B (.refl B) hG)
 |ret=>
  intro ac hc hrd hl s s' x h B C a hG Q hQ;simp only[cCode,Option.some.injEq]at hc;subst hc;simp only[exec,Option.some.injEq,Prod.mk.injEq]at h;obtain⟨rfl,rfl⟩:=h;exact wpIn_ret (hQ a C B (.refl B) hG)
 |label l=>
  intro ac hc hrd hl s s' x h B C a hG Q hQ;simp only[cCode,Option.some.injEq]at hc;subst hc;simp only[exec,Option.some.injEq,Prod.mk.injEq]at h;obtain⟨rfl,rfl⟩:=h;exact wpIn_label (hQ a C B (.refl B) hG)
 |scope c ih=>
  intro ac hc hrd hl s s' x h B C a hG Q hQ;simp only[cCode]at hc;refine wpIn_scope_straight (ih hc hrd hl h hG fun a' C' B' hB hG'=>?_);cases x<;>exact hQ a' C' B' hB hG'
 |rangeFunc g ps avs bd ih1 ih2=>
  intro ac hc hrd hl s s' x h B C a hG Q hQ;simp only[cCode]at hc;split at hc
  ·rename_i rn ax hrn hx;simp only[Option.some.injEq]at hc;subst hc;have hrd':rd=none:=hrd.resolve_right (by simp[rfs]);subst hrd';have hlp:=hl (ps,avs,bd) (by simp[rfs]);simp only[exec,rfE]at h;split at h
   ·rename_i f vs hf;split at h
    ·cases h
    ·rename_i hne;split at h
     ·cases h
     ·rename_i hlid;split at h
      ·cases h
      ·rename_i v us hcall;split at h
       ·rename_i k' st env' hob;split at h
        ·rename_i y hy;simp only[Option.some.injEq,Prod.mk.injEq]at h;obtain⟨rfl,rfl⟩:=h;exact rf_sound hS hG hx hlp hf hne hlid rfl hcall hob hy hQ
        ·cases h
       ·cases h
   ·cases h
  ·cases hc
 |_=>intro ac hc;simp[cCode]at hc
end
end Go.Am
