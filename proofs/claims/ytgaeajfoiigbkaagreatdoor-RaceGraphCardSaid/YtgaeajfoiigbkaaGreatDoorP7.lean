/- Parts of the proofs of the statement, joined and made short: AmCode AmFrame3 AmMix AmDraw AmRun AmFun AmLim AmEval AmTop AmMemo. -/
import Derived.Test.YtgaeajfoiigbkaaGreatDoorP6
import Derived.Test.YtgaeajfoiigbkaaGreatDoorP1
import Derived.Test.YtgaeajfoiigbkaaGreatDoorP5
import Derived.Orders
import Derived.LoopNIn
import Derived.Scope
import Derived.RangeFuncRecord
import Derived.Tactics
import Derived.RangeFuncLeaves
import Derived.RowKit3
set_option linter.unusedVariables false
set_option linter.unusedSimpArgs false
set_option linter.unusedSectionVars false
namespace Go.Am
variable [Glob]
theorem gT_pT : ∀ (s : zgb7) (i : RId) (o : TObj) (j : RId),gT (pT s i o) j = if i = j then some o else gT s j
 | [],i,o,j => by simp [pT,gT]
 | (i',o') :: r,i,o,j => by
  simp only [pT]
  split
  ·rename_i e
   subst e
   simp only [gT]
   split <;> rfl
  ·rename_i e
   simp only [gT,gT_pT r i o j]
   by_cases h : i' = j
   ·subst h
    rw [if_pos rfl,if_neg (fun x => e x.symm),if_pos rfl]
   ·rw [if_neg h,if_neg h]
theorem gT_pTs : ∀ (upd : List (RId × TObj)) (s : zgb7),gT (pTs s upd) = updT (gT s) upd
 | [],s => rfl
 | (i,o) :: r,s => by
  simp only [pTs,updT,gT_pTs r]
  congr 1
  funext j
  exact gT_pT s i o j
theorem gE_putE (env : Env) (d : Option Nat) (v : AVal) (t : Nat) : gE (putE env d v) t = if d = some t then v else gE env t:=by
 cases d with
 | none => simp [putE]
 | some d => simp [putE,gE]
def marks (ds : List Nat) : List Deferred:=ds.map fun D => { target:=.collected D,args:=#[] }
def Base.dsOK (B : Base) (C0 : Ctx) : Prop:=∀ D ∈ B.ds,B.w.heap[D]? = some (.deferred (some [])) ∧ ¬ B.M D ∧ C0.w.heap.size ≤ D
structure Good (B : Base) (C0 C : Ctx) (n : Nat) (s : St) (a : Act) : Prop where
 ρ : C.ρ = flat (gT s.objs)
 inv : Inv B C
 env : RepE C (gE s.env) a
 size : a.tmps.size = n
 ext : Ext (fun i => i) (fun id => id.1.1 = 0) C0 C
 defers : a.defers = marks B.ds
 ds : B.dsOK C0
 le : C0.w.heap.size ≤ B.w.heap.size ∧ B.ds.Nodup
theorem RepE.put {C C' : Ctx} {g : Nat → AVal} {a : Act} (h : RepE C g a) (hg : Grow C C') {n : Nat} (hn : a.tmps.size = n) {d : Option Nat} (hd : d.all (· < n) = true) {v : AVal} {val : Value} (hv : RepA C' v val) :
  RepE C' (fun t => if d = some t then v else g t) (a.put d val):=by
 refine ⟨fun t => ?_,h.glob.mono hg.F⟩
 cases d with
 | none => simpa [Act.put] using (h.env t).grow hg
 | some d =>
  simp only [Option.all_some,decide_eq_true_eq] at hd
  by_cases e : d = t
  ·subst e
   simp only [if_true,Act.put]
   have : (a.tmps.setIfInBounds d val).getD d undef = val:=by
    simp [Array.getD_eq_getD_getElem?,hn,hd]
   rw [this]; exact hv
  ·have e' : ¬ (some d = some t):=fun x => e (Option.some.inj x)
   simp only [e',if_false,Act.put]
   have : (a.tmps.setIfInBounds d val).getD t undef = a.tmps.getD t undef:=by
    simp [Array.getD_eq_getD_getElem?,Array.getElem?_setIfInBounds_ne e]
   rw [this]
   exact (h.env t).grow hg
theorem Ext.thenGrow {C0 C C' : Ctx} {D : Id → Prop} (h : Ext (fun i => i) D C0 C) (hg : Grow C C') : Ext (fun i => i) D C0 C':=by
 refine ⟨fun b o v hv => hg.F _ _ _ (h.F _ _ _ hv),fun id L hd hb => hg.box id L trivial (h.box id L hd hb),fun id A hd ha => ?_,fun id b hd hb => hg.blk id b trivial (h.blk id b hd hb)⟩
 obtain ⟨A',h1,h2,h3⟩:=h.arr id A hd ha
 obtain ⟨A'',h4,h5,h6⟩:=hg.arr id A' trivial h1
 refine ⟨A'',h4,Nat.le_trans h2 h5,fun e => ?_⟩
 obtain ⟨a1,a2,a3⟩:=h3 (by omega)
 obtain ⟨b1,b2,b3⟩:=h6 (by omega)
 exact ⟨by rw [b1,a1],by rw [b2,a2],by omega⟩
section
variable {P : Program} {B : Base} {C0 : Ctx} {K : Orc} {n : Nat} {rd : Option Nat}
theorem cOp_noDefer {m : Mk} {o : Oper} {k : AK} (h : cOp P m o = some k) : ∀ c,o.op ≠ .defer c:=by
 intro c e
 simp [cOp,e] at h
theorem wpOp_sound (hS : zbe7 P K) {ops : Array Oper} {Q : Exit → Act → World → Prop} {i : Nat} {o : Oper} (hi : ops[i]? = some o) {ms : List (Nat × Mk)} {k : AK} {gd : Option (Nat × Bool)} (hc : cOper P n ms ops.toList i o = some (k,gd)) {lg : Bool}
  {C : Ctx} {g : Nat → AVal} {a : Act} {T : TLook} (hI : Inv B C) (hρ : C.ρ = flat T) (hE : RepE C g a) (hn : a.tmps.size = n) {out : TOut} (h : aoE K ⟨o.dst,k,gd,lg⟩ g T = some out) {next : Act → World → Prop}
  (hnext : ∀ val C',C'.ρ = flat (updT T out.2) → Inv B C' → Grow C C' → RepE C' (fun t => if o.dst = some t then out.1 else g t) (a.put o.dst val) → (a.put o.dst val).tmps.size = n → next (a.put o.dst val) C'.w) :
  wpOpIn (fR rd) 0 P ops Q i next a C.w:=by
 unfold wpOpIn
 simp only [hi]
 have hc0:=hc
 unfold cOper at hc
 have hsize : ∀ val,(a.put o.dst val).tmps.size = n:=by
  intro val
  cases o.dst <;> simp [Act.put,hn]
 have hdo : ∀ (hk : cOp P (mkOf ms i) o = some k),(o.dst.all (· < n)) = true → opT K (o.dst.getD 0) k g T = some out → o.wpIn (fR rd) 0 P a C.w next Q:=by
  intro hk hd hop
  have:=op_all (B:=B) hS hI hρ hE (v:=out.1) (us:=out.2) hk (by simpa using hop)
  refine this.wp (cOp_noDefer hk) fun val w' ⟨C',e1,e2,e3,e4,e5⟩ => ?_
  subst e1
  exact hnext val C' e2 e3 e4 (hE.put e4 hn hd e5) (hsize val)
 have hskip : out = (.tup [],[]) → (o.dst.all (· < n)) = true → next (a.put o.dst undef) C.w:=by
  intro e hd
  subst e
  refine hnext undef C hρ hI (Grow.refl C) (hE.put (Grow.refl C) hn hd ?_) (hsize undef)
  simp [RepA,RepL,undef]
 cases hgd : o.guard with
 | none =>
  rw [hgd] at hc
  simp only at hc
  split at hc
  ·rename_i k' g' hk hg
   simp only [Option.some.injEq] at hg
   subst hg
   split at hc
   ·rename_i hd
    simp only [Option.some.injEq,Prod.mk.injEq] at hc
    obtain ⟨rfl,rfl⟩:=hc
    simp only [aoE] at h
    have hw : Region.wanted o (yielded ops a.tmps) = true:=by simp [Region.wanted,hgd]
    simp only [hw,if_true]
    exact hdo hk hd h
   ·cases hc
  ·cases hc
 | some jw =>
  obtain ⟨j,want⟩:=jw
  rw [hgd] at hc
  simp only at hc
  split at hc
  ·rename_i k' g' hk hg
   split at hg
   ·rename_i t ht
    simp only [Option.some.injEq] at hg
    subst hg
    split at hc
    ·rename_i hd
     simp only [Option.some.injEq,Prod.mk.injEq] at hc
     obtain ⟨rfl,rfl⟩:=hc
     simp only [aoE] at h
     have hht : ((ops[j]?).bind (·.dst)) = some t:=by simpa using ht
     have hy : ∀ v,a.tmps.getD t undef = v → yielded ops a.tmps j = match v with | .bool b => some b | _ => none:=by
      intro v hv
      unfold yielded
      rw [hht]
      simp only [Option.bind_some]
      cases e : a.tmps[t]? with
      | none =>
       have : a.tmps.getD t undef = undef:=by simp [Array.getD_eq_getD_getElem?,e]
       rw [this] at hv
       subst hv
       rfl
      | some u =>
       have : a.tmps.getD t undef = u:=by simp [Array.getD_eq_getD_getElem?,e]
       rw [this] at hv
       subst hv
       cases u <;> rfl
     have hrt:=hE.env t
     split at h
     ·rename_i b hb
      rw [hb] at hrt
      have hyb:=hy _ (rep_bool hrt)
      simp only at hyb
      have hw : Region.wanted o (yielded ops a.tmps) = (b == want):=by simp [Region.wanted,hgd,hyb]
      rw [hw]
      split at h
      ·rename_i hbw
       subst hbw
       simp only [BEq.rfl,if_true]
       exact hdo hk hd h
      ·rename_i hbw
       have : (b == want) = false:=by simpa using hbw
       rw [this]
       simp only [Option.some.injEq] at h
       exact ⟨fun _ _ => trivial,hskip h.symm hd⟩
     ·rename_i hb
      rw [hb] at hrt
      simp only [RepA,RepL] at hrt
      obtain ⟨cs,h1,h2⟩:=hrt
      have hyb:=hy _ h1
      simp only at hyb
      have hw : Region.wanted o (yielded ops a.tmps) = false:=by simp [Region.wanted,hgd,hyb]
      rw [hw]
      simp only [Option.some.injEq] at h
      exact ⟨fun _ _ => trivial,hskip h.symm hd⟩
     ·cases h
    ·cases hc
   ·cases hg
  ·cases hc
end
end Go.Am

namespace Go.Am
variable [Glob]
section
variable {g g' : Nat → AVal} {T T' : TLook}
theorem opT_slots (K : Orc) (site : Nat) {k : AK} (T : TLook) (h : ∀ t ∈ k.slots,g' t = g t) : opT K site k g' T = opT K site k g T:=by
 have hf : flatE site k g' T = flatE site k g T:=by unfold flatE; rw [opE_slots site (flat T) h]
 unfold opT
 split
 ·rw [pairs_congr (by simpa [AK.slots] using h)]
 ·simp only [AK.slots,List.mem_append,or_imp,forall_and] at h
  rw [zba7 h.1,pairs_congr h.2]
 ·rename_i sz
  rw [opE_slots (k:=.mvNil .r sz) site (flat T) (by simp [AK.slots])]
 ·rename_i sz bytes l c
  rw [opE_slots (k:=.mk .r sz bytes [.nils] l c) site (flat T) (by simpa [AK.slots] using h)]
 ·simp only [AK.slots,List.mem_append,or_imp,forall_and] at h
  rw [zba7 h.1,zba7 h.2]
 ·rw [opE_slots (k:=.mkMap true) site (flat T) (by simp [AK.slots])]
 ·have h0:=h
  simp only [AK.slots,List.mem_append,or_imp,forall_and] at h
  rw [zba7 h.1.1,zba7 h.1.2,zba7 h.2,hf]
 ·have h0:=h
  simp only [AK.slots,List.mem_append,or_imp,forall_and] at h
  rw [zba7 h.1,zba7 h.2,hf]
 ·exact hf
theorem zqd7 : ∀ {us : List (RId × TObj)} {T T' : TLook} {r : RId},T' r = T r → updT T' us r = updT T us r
 | [],T,T',r,h => h
 | (i,o) :: us,T,T',r,h => by
  simp only [updT]
  exact zqd7 (by by_cases e : i = r <;> simp [e,h])
theorem decT_congr {v : AVal} (h : ∀ i ∈ v.ids,T' i.1 = T i.1) : decT T' v = decT T v:=by
 cases v with
 | rsl id ver sz off len =>
  obtain ⟨r,i,j⟩:=id
  simp only [decT,h (r,i,j) (by simp [AVal.ids])]
 | _ => rfl
theorem decLsT_congr : ∀ {l : List AVal} {T T' : TLook},(∀ i ∈ AVal.idsL l,T' i.1 = T i.1) → decLsT T' l = decLsT T l
 | [],T,T',_ => rfl
 | v :: r,T,T',h => by
  simp only [AVal.idsL,List.mem_append,or_imp,forall_and] at h
  simp only [decLsT,decT_congr h.1]
  cases decT T v with
  | none => rfl
  | some p =>
   obtain ⟨d,us⟩:=p
   simp only [decLsT_congr (l:=r) (T:=updT T us) (T':=updT T' us) fun i hi => zqd7 (h.2 i hi)]
theorem decV_congr {v : AVal} (h : ∀ i ∈ v.ids,T' i.1 = T i.1) : decV T' v = decV T v:=by
 cases v with
 | agg l => simp only [decV]; rw [decLsT_congr (by simpa [AVal.ids] using h)]
 | _ => exact decT_congr h
theorem argsT_congr : ∀ {l : List (AVal × Bool)} {T T' : TLook},(∀ i ∈ AVal.idsL (l.map (·.1)),T' i.1 = T i.1) → argsT T' l = argsT T l
 | [],T,T',_ => rfl
 | (v,true) :: r,T,T',h => by
  simp only [List.map_cons,AVal.idsL,List.mem_append,or_imp,forall_and] at h
  simp only [argsT,argsT_congr h.2]
 | (v,false) :: r,T,T',h => by
  simp only [List.map_cons,AVal.idsL,List.mem_append,or_imp,forall_and] at h
  simp only [argsT,decV_congr h.1]
  cases decV T v with
  | none => rfl
  | some p =>
   obtain ⟨d,us⟩:=p
   simp only [argsT_congr (l:=r) (T:=updT T us) (T':=updT T' us) fun i hi => zqd7 (h.2 i hi)]
theorem lift1_congr {id : Id} {o : Obj} (h : T' id.1 = T id.1) : lift1 T' id o = lift1 T id o:=by simp only [lift1,h]
theorem lift1_key {id : Id} {o : Obj} {u : RId × TObj} (h : lift1 T id o = some u) : u.1 = id.1:=by
 unfold lift1 at h
 split at h
 ·split at h
  ·split at h
   ·split at h
    ·simp only [Option.some.injEq] at h; rw [← h]
    ·cases h
   ·cases h
  ·cases h
 ·cases h
 ·split at h
  ·simp only [Option.some.injEq] at h; rw [← h]
  ·cases h
theorem liftX_congr : ∀ {upd : List (Id × Obj)} {T T' : TLook},(∀ i ∈ upd.map (·.1),T' i.1 = T i.1) → liftX T' upd = liftX T upd
 | [],T,T',_ => rfl
 | (id,o) :: r,T,T',h => by
  simp only [List.map_cons,List.mem_cons,forall_eq_or_imp] at h
  simp only [liftX,lift1_congr h.1]
  cases lift1 T id o with
  | none => rfl
  | some u =>
   simp only
   rw [liftX_congr (upd:=r) (T:=updT T [u]) (T':=updT T' [u]) fun i hi => zqd7 (h.2 i hi)]
theorem liftX_keys : ∀ {upd : List (Id × Obj)} {T : TLook} {us : List (RId × TObj)},liftX T upd = some us → us.map (·.1) = upd.map (·.1.1)
 | [],T,us,h => by simp only [liftX,Option.some.injEq] at h; simp [← h]
 | (id,o) :: r,T,us,h => by
  simp only [liftX] at h
  split at h
  ·cases h
  ·rename_i u hu
   split at h
   ·cases h
   ·rename_i us' hus
    simp only [Option.some.injEq] at h
    subst h
    simp [liftX_keys hus,lift1_key hu]
theorem grown_congr {id : Id} {o : Obj} (h : T' id.1 = T id.1) : grown T' id o = grown T id o:=by simp only [grown,h]
theorem grown_key {id : Id} {o : Obj} {u : RId × TObj} (h : grown T id o = some u) : u.1 = id.1:=by
 unfold grown at h
 split at h
 ·split at h
  ·split at h
   ·simp only [Option.some.injEq] at h; rw [← h]
   ·cases h
  ·cases h
 ·split at h
  ·split at h
   ·simp only [Option.some.injEq] at h; rw [← h]
   ·cases h
  ·cases h
 ·cases h
theorem lift_congr {upd : List (Id × Obj)} (h : ∀ i ∈ upd.map (·.1),T' i.1 = T i.1) : lift T' upd = lift T upd:=by
 match upd,h with
 | [],_ => rfl
 | [(id,o)],h =>
  have h1 : T' id.1 = T id.1:=h id (by simp)
  simp only [lift,grown_congr h1,liftX_congr h]
 | a :: b :: r,h => simp only [lift,liftX_congr h]
theorem lift_keys {upd : List (Id × Obj)} {us : List (RId × TObj)} (h : lift T upd = some us) : us.map (·.1) = upd.map (·.1.1):=by
 match upd,h with
 | [],h => simp only [lift,Option.some.injEq] at h; simp [← h]
 | [(id,o)],h =>
  simp only [lift] at h
  split at h
  ·rename_i u hu
   simp only [Option.some.injEq] at h
   subst h
   simp [grown_key hu]
  ·exact liftX_keys h
 | a :: b :: r,h => simp only [lift] at h; exact liftX_keys h
theorem flatE_objs (site : Nat) {k : AK} {out : TOut} (h : flatE site k g T = some out) (h1 : ∀ r ∈ (touch k g).map (·.1),T' r = T r) (h2 : ∀ r ∈ out.2.map (·.1),T' r = T r) : flatE site k g T' = some out:=by
 unfold flatE at h ⊢
 cases ho : opE site k g (flat T) with
 | none => rw [ho] at h; cases h
 | some p =>
  obtain ⟨v,upd⟩:=p
  rw [ho] at h
  simp only at h
  cases hl : lift T upd with
  | none => rw [hl] at h; cases h
  | some us =>
   rw [hl] at h
   simp only [Option.some.injEq] at h
   subst h
   have hk:=lift_keys hl
   have hupd : ∀ i ∈ upd.map (·.1),T' i.1 = T i.1:=by
    intro i hi
    apply h2
    simp only
    rw [hk]
    obtain ⟨p,hp,rfl⟩:=List.mem_map.1 hi
    exact List.mem_map.2 ⟨p,hp,rfl⟩
   have:=opE_objs (ρ':=flat T') site ho (fun i hi => by
    rcases hi with hi | hi
    ·exact zpa7 (h1 _ (List.mem_map.2 ⟨i,hi,rfl⟩))
    ·exact zpa7 (hupd i hi))
   rw [this]
   simp only
   rw [lift_congr hupd,hl]
theorem ztc7 {r : RId} {pv i : Nat} {old : Option Cell} {mv : Bool} {v : AVal} (h : ∀ x ∈ v.ids,T' x.1 = T x.1) : cellIn T' r pv old i mv v = cellIn T r pv old i mv v:=by
 have hd : cellIn.data T' r old v = cellIn.data T r old v:=by unfold cellIn.data; rw [decT_congr h]
 unfold cellIn
 split
 ·rename_i r2 i2 j2 ver sz off len
  rw [h (r2,i2,j2) (by simp [AVal.ids])]
  rw [hd]
 ·exact hd
theorem newVer_flat {r : RId} (h : T' r = T r) : zhb7 (flat T') (r,0,0) = zhb7 (flat T) (r,0,0):=zna7 (zpa7 h)
theorem pvN_congr {r : RId} (h : T' r = T r) : pvN T' r = pvN T r:=by simp only [pvN,h]
theorem callE_objs (K : Orc) (site : Nat) {f : FuncId} {args : List (AVal × Bool)} {sc : Bool} {out : TOut} (h : callE K site f args sc T = some out)
  (h1 : ∀ r ∈ touchC args T,T' r = T r) (h2 : ∀ r ∈ out.2.map (·.1),T' r = T r) : callE K site f args sc T' = some out:=by
 unfold callE at h ⊢
 have ht : ∀ i ∈ AVal.idsL (args.map (·.1)),T' i.1 = T i.1:=fun i hi => h1 _ (List.mem_append.2 (.inl (List.mem_map.2 ⟨i,hi,rfl⟩)))
 rw [argsT_congr ht]
 cases ha : argsT T args with
 | none => rw [ha] at h; cases h
 | some p =>
  obtain ⟨vs,us⟩:=p
  rw [ha] at h
  simp only at h ⊢
  cases hcol : collect (updT T us) 64 (AVal.ridsL vs) [] with
  | none => rw [hcol] at h; cases h
  | some order =>
   rw [hcol] at h
   have ho : ∀ i ∈ order,updT T' us i = updT T us i:=fun i hi => zqd7 (h1 i (List.mem_append.2 (.inr (by simp only [ha,hcol]; exact hi))))
   have hcc : ∀ (n : Nat) (todo done res : List RId),collect (updT T us) n todo done = some res → (∀ i ∈ res,updT T' us i = updT T us i) → collect (updT T' us) n todo done = some res:=by
    have done' : ∀ (n : Nat) (todo done res : List RId),collect (updT T us) n todo done = some res → ∀ i ∈ done,i ∈ res:=by
     intro n
     induction n with
     | zero => intro todo done res h; simp [collect] at h
     | succ n ih =>
      intro todo done res h
      cases todo with
      | nil => simp only [collect,Option.some.injEq] at h; subst h; exact fun _ h => h
      | cons id todo =>
       simp only [collect] at h
       split at h
       ·exact ih _ _ _ h
       ·split at h
        ·cases h
        ·exact fun i hi => ih _ _ _ h i (by simp [hi])
    intro n
    induction n with
    | zero => intro todo done res h _; simp [collect] at h
    | succ n ih =>
     intro todo done res h hr
     cases todo with
     | nil => simpa only [collect] using h
     | cons id todo =>
      simp only [collect] at h ⊢
      split at h
      ·rename_i hid
       rw [if_pos hid]
       exact ih _ _ _ h hr
      ·rename_i hid
       rw [if_neg hid]
       split at h
       ·cases h
       ·rename_i o ho
        rw [hr id (done' _ _ _ _ h id (by simp)),ho]
        exact ih _ _ _ h hr
   have hgc : ∀ (l : List RId),(∀ i ∈ l,updT T' us i = updT T us i) → gather (updT T' us) l = gather (updT T us) l:=by
    intro l
    induction l with
    | nil => intro _; rfl
    | cons id r ih =>
     intro h
     simp only [gather,h id (by simp),ih fun i hi => h i (by simp [hi])]
   rw [hcc _ _ _ _ hcol ho]
   simp only at h ⊢
   rw [hgc order ho]
   cases hg : gather (updT T us) order with
   | none => rw [hg] at h; cases h
   | some os =>
    rw [hg] at h
    simp only at h ⊢
    cases hK : K f (AVal.trenL (toPos order) vs) (os.map (TObj.tren (toPos order))) with
    | none => rw [hK] at h; cases h
    | some q =>
     obtain ⟨v,os'⟩:=q
     rw [hK] at h
     simp only at h ⊢
     split at h
     ·rename_i hsc
      rw [if_pos hsc]
      exact h
     ·rename_i hsc
      rw [if_neg hsc]
      split at h
      ·cases h
      ·rename_i hlen
       rw [if_neg hlen]
       split at h
       ·cases h
       ·rename_i hfr
        simp only [Option.some.injEq] at h
        have key : ∀ j,j < os'.length - order.length → updT T' us (site + 1,j) = updT T us (site + 1,j):=by
         intro j hj
         refine zqd7 (h2 _ ?_)
         rw [← h]
         simp only [List.map_append,List.mem_append]
         right
         rw [List.map_fst_zip (by simp)]
         refine List.mem_map.2 ⟨order.length + j,by simp; omega,?_⟩
         have : order[order.length + j]? = none:=by simp
         simp [zcb7,this]
        have hfr' : ¬ (List.range (os'.length - order.length)).any (fun j => (updT T' us (site + 1,j)).isSome) = true:=by
         intro hx
         rw [List.any_eq_true] at hx
         obtain ⟨j,hj,hjs⟩:=hx
         refine hfr (List.any_eq_true.2 ⟨j,hj,?_⟩)
         rw [← key j (by simpa using hj)]
         exact hjs
        rw [if_neg hfr',h]
theorem opT_objs (K : Orc) (site : Nat) {k : AK} {out : TOut} (h : opT K site k g T = some out) (hT : ∀ r,r ∈ zce7 k g T ∨ r ∈ out.2.map (·.1) → T' r = T r) : opT K site k g T' = some out:=by
 have h2 : ∀ r ∈ out.2.map (·.1),T' r = T r:=fun r hr => hT r (.inr hr)
 unfold opT at h ⊢
 split at h
 ·exact callE_objs K site h (fun r hr => hT r (.inl hr)) h2
 ·rename_i x args sc
  try simp only at h ⊢
  split at h
  ·rename_i f caps hf
   try simp only [hf]
   by_cases hbig : BIGF ≤ f
   ·rw [if_pos hbig] at h ⊢
    by_cases hne : f - BIGF = YID
    ·rw [if_pos hne] at h; cases h
    ·rw [if_neg hne] at h ⊢
     refine callE_objs K site h (fun r hr => hT r (.inl ?_)) h2
     simp only [zce7,hf,if_pos hbig]
     exact hr
   ·rw [if_neg hbig] at h ⊢
    by_cases hne : f = YID
    ·rw [if_pos hne] at h; cases h
    ·rw [if_neg hne] at h ⊢
     refine callE_objs K site h (fun r hr => hT r (.inl ?_)) h2
     simp only [zce7,hf,if_neg hbig]
     exact hr
  ·rename_i id hf
   try simp only [hf]
   refine callE_objs K site h (fun r hr => hT r (.inl ?_)) h2
   simp only [zce7,hf]
   exact hr
  ·cases h
 ·rename_i sz
  try simp only at h ⊢
  split at h
  ·rename_i id nv sz1 off len upd hop
   split at h
   ·rename_i hsz
    simp only [Option.some.injEq] at h
    subst h
    have hs : T' (site + 1,0) = T (site + 1,0):=h2 _ (by simp)
    obtain ⟨nv',q1,q2⟩:=opE_mvNil_r hop
    have:=opE_objs (ρ':=flat T') site hop (fun i hi => by
     rcases hi with hi | hi
     ·simp [touch] at hi
     ·subst q2
      simp at hi
      subst hi
      exact zpa7 hs)
    rw [this]
    simp only
    rw [if_pos hsz,pvN_congr hs]
   ·cases h
  ·cases h
 ·rename_i sz bytes l c
  try simp only at h ⊢
  split at h
  ·rename_i id nv sz1 off len upd hop
   split at h
   ·rename_i hsz
    simp only [Option.some.injEq] at h
    subst h
    have hs : T' (site + 1,0) = T (site + 1,0):=h2 _ (by simp)
    obtain ⟨nv',n,q1,q2⟩:=opE_mk_r hop
    have:=opE_objs (ρ':=flat T') site hop (fun i hi => by
     rcases hi with hi | hi
     ·simp [touch] at hi
     ·subst q2
      simp at hi
      subst hi
      exact zpa7 hs)
    rw [this]
    simp only
    rw [if_pos hsz,pvN_congr hs]
   ·cases h
  ·cases h
 ·rename_i bytes x y
  have hx : ∀ i ∈ (evX g x).ids,T' i.1 = T i.1:=fun i hi => hT _ (.inl (by simp only [zce7,touch,List.map_append,List.mem_append]; exact .inl (List.mem_map.2 ⟨i,hi,rfl⟩)))
  have hy : ∀ i ∈ (evX g y).ids,T' i.1 = T i.1:=fun i hi => hT _ (.inl (by simp only [zce7,touch,List.map_append,List.mem_append]; exact .inr (List.mem_map.2 ⟨i,hi,rfl⟩)))
  try simp only at h ⊢
  unfold appF at h ⊢
  split at h
  ·rename_i w hw
   have hw' : ∀ i ∈ w.ids,T' i.1 = T i.1:=fun i hi => hy i (by rw [hw]; simp [AVal.ids,AVal.idsL,hi])
   try simp only [hw]
   split at h
   ·rename_i r ver len hX
    try simp only [hX]
    have hr : T' r = T r:=hx (r,0,0) (by rw [hX]; simp [AVal.ids])
    rw [hr]
    split at h
    ·split at h
     ·rename_i hc
      rw [if_pos hc,ztc7 hw']
      exact h
     ·cases h
    ·cases h
   ·rename_i hX
    try simp only [hX]
    split at h
    ·rename_i nv hnv
     split at h
     ·rename_i hroom
      split at h
      ·rename_i c b us hcell
       simp only [Option.some.injEq] at h
       subst h
       have hs : T' (site + 1,0) = T (site + 1,0):=h2 _ (by simp)
       have hnv' : zhb7 (flat T') (nid site) = some nv:=by rw [← hnv]; exact newVer_flat hs
       rw [hnv']
       simp only
       rw [if_pos hroom,ztc7 hw',pvN_congr hs,hcell]
      ·cases h
     ·cases h
    ·cases h
   ·rename_i hX
    try simp only [hX]
    split at h
    ·rename_i nv hnv
     split at h
     ·rename_i hroom
      split at h
      ·rename_i c b us hcell
       simp only [Option.some.injEq] at h
       subst h
       have hs : T' (site + 1,0) = T (site + 1,0):=h2 _ (by simp)
       have hnv' : zhb7 (flat T') (nid site) = some nv:=by rw [← hnv]; exact newVer_flat hs
       rw [hnv']
       simp only
       rw [if_pos hroom,ztc7 hw',pvN_congr hs,hcell]
      ·cases h
     ·cases h
    ·cases h
   ·cases h
  ·cases h
 ·try simp only at h ⊢
  split at h
  ·rename_i v upd hop
   simp only [Option.some.injEq] at h
   subst h
   have hs : T' (site + 1,0) = T (site + 1,0):=h2 _ (by simp)
   have hu : upd = [(nid site,.blk (.map []))]:=by
    simp only [opE] at hop
    split at hop
    ·cases hop
    ·simp only [Option.some.injEq,Prod.mk.injEq] at hop; exact hop.2.symm
   have:=opE_objs (ρ':=flat T') site hop (fun i hi => by
    rcases hi with hi | hi
    ·simp [touch] at hi
    ·subst hu
     simp at hi
     subst hi
     exact zpa7 hs)
   rw [this]
  ·cases h
 ·rename_i ag sh ax ak av
  have hx : ∀ i ∈ (evX g ax).ids,T' i.1 = T i.1:=fun i hi => hT _ (.inl (by simp only [zce7,touch,List.map_append,List.mem_append]; exact .inl (List.mem_map.2 ⟨i,hi,rfl⟩)))
  have hy : ∀ i ∈ (evX g av).ids,T' i.1 = T i.1:=fun i hi => hT _ (.inl (by simp only [zce7,touch,List.map_append,List.mem_append]; exact .inr (List.mem_map.2 ⟨i,hi,rfl⟩)))
  have hfl : flatE site (.mup ag sh ax ak av) g T = some out → flatE site (.mup ag sh ax ak av) g T' = some out:=fun h => flatE_objs site h (fun r hr => hT r (.inl hr)) h2
  try simp only at h ⊢
  split at h
  ·rename_i r hX
   try simp only [hX]
   have hr : T' r = T r:=hx (r,0,0) (by rw [hX]; simp [AVal.ids])
   rw [hr]
   split at h
   ·rename_i pv es hTr
    try simp only [hTr]
    unfold mupF at h ⊢
    split at h
    ·cases h
    ·rename_i kd hkd
     try simp only [hkd]
     split at h
     ·rename_i i hi
      try simp only [hi]
      split at h
      ·cases h
      ·rename_i old hold
       rw [ztc7 hy]
       try simp only [hold]
       exact h
     ·rename_i hi
      try simp only [hi]
      rw [ztc7 hy]
      exact h
     ·cases h
   ·rename_i hTr
    exact hfl h
  ·rename_i hX
   exact hfl h
 ·rename_i mv n ax av
  have hx : ∀ i ∈ (evX g ax).ids,T' i.1 = T i.1:=fun i hi => hT _ (.inl (by simp only [zce7,touch,List.map_append,List.mem_append]; exact .inl (List.mem_map.2 ⟨i,hi,rfl⟩)))
  have hy : ∀ i ∈ (evX g av).ids,T' i.1 = T i.1:=fun i hi => hT _ (.inl (by simp only [zce7,touch,List.map_append,List.mem_append]; exact .inr (List.mem_map.2 ⟨i,hi,rfl⟩)))
  have hfl : flatE site (.st mv n ax av) g T = some out → flatE site (.st mv n ax av) g T' = some out:=fun h => flatE_objs site h (fun r hr => hT r (.inl hr)) h2
  try simp only at h ⊢
  split at h
  ·rename_i r ver i hX
   try simp only [hX]
   have hr : T' r = T r:=hx (r,0,0) (by rw [hX]; simp [AVal.ids])
   rw [hr]
   split at h
   ·rename_i ver' pv cells hTr
    try simp only [hTr]
    split at h
    ·rename_i hc
     rw [if_pos hc]
     unfold stF at h ⊢
     split at h
     ·cases h
     ·rename_i old hold
      rw [ztc7 hy]
      try simp only [hold]
      exact h
    ·cases h
   ·rename_i hTr
    exact hfl h
  ·rename_i hX
   exact hfl h
 ·rename_i hn1 hn2 hn3 hn4 hn5 hn6 hn7 hn8
  refine flatE_objs site h (fun r hr => hT r (.inl ?_)) h2
  unfold zce7
  split
  ·exact absurd rfl (hn1 _ _ _)
  ·exact absurd rfl (hn2 _ _ _)
  ·exact hr
theorem opT_quiet (K : Orc) (site : Nat) {k : AK} {out : TOut} (h : opT K site k g T = some out) (hk : k.kind ≠ 2) : out.2 = []:=by
 unfold opT at h
 split at h
 ·simp [AK.kind] at hk
 ·simp [AK.kind] at hk
 ·simp [AK.kind] at hk
 ·simp [AK.kind] at hk
 ·simp [AK.kind] at hk
 ·simp [AK.kind] at hk
 ·simp [AK.kind] at hk
 ·simp [AK.kind] at hk
 ·unfold flatE at h
  split at h
  ·cases h
  ·rename_i v upd ho
   have:=opE_quiet site ho hk
   simp only at this
   subst this
   simp only [lift,Option.some.injEq] at h
   subst h
   rfl
theorem opT_blind (K : Orc) (site : Nat) {k : AK} (hk : k.kind = 0) : opT K site k g T' = opT K site k g T:=by
 unfold opT
 split
 ·simp [AK.kind] at hk
 ·simp [AK.kind] at hk
 ·simp [AK.kind] at hk
 ·simp [AK.kind] at hk
 ·simp [AK.kind] at hk
 ·simp [AK.kind] at hk
 ·simp [AK.kind] at hk
 ·simp [AK.kind] at hk
 ·unfold flatE
  rw [opE_blind (ρ':=flat T') (ρ:=flat T) site hk]
  cases ho : opE site _ g (flat T) with
  | none => rfl
  | some p =>
   obtain ⟨v,upd⟩:=p
   have:=opE_quiet site ho (by rw [hk]; simp)
   simp only at this
   subst this
   rfl
end
end Go.Am

namespace Go.Am
variable [Glob]
def dstAt (aos : List AO) (k : Nat) : Option Nat:=(aos[k]?).bind (·.dst)
def outAt (outs : List TOut) (k : Nat) : TOut:=(outs[k]?).getD (.undef,[])
def gM (aos : List AO) (outs : List TOut) (D : Nat → Bool) (g0 : Nat → AVal) : Nat → Nat → AVal
 | 0 => g0
 | k + 1 => fun t => if D k = true ∧ dstAt aos k = some t then (outAt outs k).1 else gM aos outs D g0 k t
def rM (outs : List TOut) (D : Nat → Bool) (ρ0 : TLook) : Nat → TLook
 | 0 => ρ0
 | k + 1 => if D k = true then updT (rM outs D ρ0 k) (outAt outs k).2 else rM outs D ρ0 k
def zsc7 (outs : List TOut) (k : Nat) : List RId:=(outAt outs k).2.map (·.1)
abbrev every : Nat → Bool:=fun _ => true
theorem zhf7 : ∀ {upd : List (RId × TObj)} {ρ : TLook} {x : RId},x ∉ upd.map (·.1) → updT ρ upd x = ρ x
 | [],ρ,x,_ => rfl
 | (i,o) :: r,ρ,x,h => by
  simp only [List.map_cons,List.mem_cons,not_or] at h
  rw [updT,zhf7 h.2,if_neg (fun e => h.1 e.symm)]
theorem updT_at : ∀ {upd : List (RId × TObj)} {ρ ρ' : TLook} {x : RId},(x ∈ upd.map (·.1) ∨ ρ x = ρ' x) → updT ρ upd x = updT ρ' upd x
 | [],ρ,ρ',x,h => by simpa [updT] using h
 | (i,o) :: r,ρ,ρ',x,h => by
  simp only [updT]
  refine updT_at ?_
  by_cases e : i = x
  ·exact .inr (by simp [e])
  ·simp only [List.map_cons,List.mem_cons] at h
   rcases h with (h | h) | h
   ·exact absurd h.symm e
   ·exact .inl h
   ·exact .inr (by simp [e,h])
section
variable {aos : List AO} {outs : List TOut} {D : Nat → Bool} {g0 : Nat → AVal} {ρ0 : TLook}
theorem gM_agree {i t : Nat} (h1 : ∀ k,k < i → dstAt aos k = some t → D k = true) : ∀ (N : Nat),i ≤ N → (∀ k,i ≤ k → k < N → dstAt aos k = some t → D k = false) → gM aos outs D g0 N t = gM aos outs every g0 i t:=by
 have low : ∀ n,n ≤ i → gM aos outs D g0 n t = gM aos outs every g0 n t:=by
  intro n
  induction n with
  | zero => intro _; rfl
  | succ n ih =>
   intro hn
   simp only [gM,ih (by omega)]
   by_cases hd : dstAt aos n = some t
   ·rw [if_pos ⟨h1 n (by omega) hd,hd⟩,if_pos ⟨trivial,hd⟩]
   ·rw [if_neg (fun x => hd x.2),if_neg (fun x => hd x.2)]
 intro N hN
 induction N with
 | zero =>
  intro _
  have : i = 0:=by omega
  subst this; rfl
 | succ N ih =>
  intro h2
  by_cases e : i = N + 1
  ·subst e; exact low _ (Nat.le_refl _)
  ·simp only [gM]
   rw [if_neg (fun x => by rw [h2 N (by omega) (by omega) x.2] at x; exact absurd x.1 (by simp))]
   exact ih (by omega) fun k hk hk' => h2 k hk (by omega)
theorem rM_agree {i : Nat} {x : RId} (h1 : ∀ k,k < i → x ∈ zsc7 outs k → D k = true) : ∀ (N : Nat),i ≤ N → (∀ k,i ≤ k → k < N → x ∈ zsc7 outs k → D k = false) → rM outs D ρ0 N x = rM outs every ρ0 i x:=by
 have low : ∀ n,n ≤ i → rM outs D ρ0 n x = rM outs every ρ0 n x:=by
  intro n
  induction n with
  | zero => intro _; rfl
  | succ n ih =>
   intro hn
   simp only [rM,if_true]
   by_cases hd : x ∈ zsc7 outs n
   ·rw [if_pos (h1 n (by omega) hd)]
    exact updT_at (.inl hd)
   ·rw [zhf7 (upd:=(outAt outs n).2) hd]
    split
    ·rw [zhf7 (upd:=(outAt outs n).2) hd,ih (by omega)]
    ·exact ih (by omega)
 intro N hN
 induction N with
 | zero =>
  intro _
  have : i = 0:=by omega
  subst this; rfl
 | succ N ih =>
  intro h2
  by_cases e : i = N + 1
  ·subst e; exact low _ (Nat.le_refl _)
  ·simp only [rM]
   have hr:=ih (by omega) fun k hk hk' => h2 k hk (by omega)
   by_cases hd : x ∈ zsc7 outs N
   ·rw [h2 N (by omega) (by omega) hd]
    exact hr
   ·split
    ·rw [zhf7 (upd:=(outAt outs N).2) hd]; exact hr
    ·exact hr
def addD (D : Nat → Bool) (i : Nat) : Nat → Bool:=fun k => D k || k == i
theorem gM_add {i : Nat} (hD : D i = false) (t : Nat) : ∀ (N : Nat),i < N → (∀ k,i < k → k < N → dstAt aos i = some t → dstAt aos k = some t → D k = false) →
  gM aos outs (addD D i) g0 N t = if dstAt aos i = some t then (outAt outs i).1 else gM aos outs D g0 N t:=by
 have low : ∀ n,n ≤ i → gM aos outs (addD D i) g0 n t = gM aos outs D g0 n t:=by
  intro n
  induction n with
  | zero => intro _; rfl
  | succ n ih =>
   intro hn
   have hne : (n == i) = false:=by simp; omega
   simp only [gM,ih (by omega),addD,hne,Bool.or_false]
 intro N
 induction N with
 | zero => intro h; omega
 | succ N ih =>
  intro hN hk
  by_cases e : N = i
  ·subst e
   simp only [gM,addD,BEq.rfl,Bool.or_true,true_and,hD,Bool.false_eq_true,false_and,if_false]
   split
   ·rfl
   ·exact low _ (Nat.le_refl _)
  ·have hne : (N == i) = false:=by simp; omega
   simp only [gM,addD,hne,Bool.or_false]
   have hr:=ih (by omega) fun k h1 h2 => hk k h1 (by omega)
   by_cases hd : dstAt aos i = some t
   ·simp only [hd,if_true] at hr ⊢
    by_cases hN' : dstAt aos N = some t
    ·rw [hk N (by omega) (by omega) hd hN']
     simpa using hr
    ·rw [if_neg (fun x => hN' x.2)]
     exact hr
   ·simp only [hd,if_false] at hr ⊢
    split
    ·rfl
    ·exact hr
theorem rM_add {i : Nat} (hD : D i = false) (x : RId) : ∀ (N : Nat),i < N → (∀ k,i < k → k < N → x ∈ zsc7 outs i → x ∈ zsc7 outs k → D k = false) →
  rM outs (addD D i) ρ0 N x = updT (rM outs D ρ0 N) (outAt outs i).2 x:=by
 have low : ∀ n,n ≤ i → rM outs (addD D i) ρ0 n = rM outs D ρ0 n:=by
  intro n
  induction n with
  | zero => intro _; rfl
  | succ n ih =>
   intro hn
   have hne : (n == i) = false:=by simp; omega
   simp only [rM,ih (by omega),addD,hne,Bool.or_false]
 intro N
 induction N with
 | zero => intro h; omega
 | succ N ih =>
  intro hN hk
  by_cases e : N = i
  ·subst e
   simp only [rM,addD,BEq.rfl,Bool.or_true,if_true,hD,Bool.false_eq_true,if_false]
   have:=low N (Nat.le_refl _)
   rw [this]
  ·have hne : (N == i) = false:=by simp; omega
   simp only [rM]
   have hs : addD D i N = D N:=by simp [addD,hne]
   rw [hs]
   have hr:=ih (by omega) fun k h1 h2 => hk k h1 (by omega)
   by_cases hx : x ∈ zsc7 outs i
   ·have hup : ∀ ρ ρ' : TLook,updT ρ (outAt outs i).2 x = updT ρ' (outAt outs i).2 x:=fun _ _ => updT_at (.inl hx)
    by_cases hN' : x ∈ zsc7 outs N
    ·rw [hk N (by omega) (by omega) hx hN']
     simpa using hr
    ·split
     ·rw [zhf7 (upd:=(outAt outs N).2) hN',hr]
      exact hup _ _
     ·exact hr
   ·rw [zhf7 (upd:=(outAt outs i).2) hx] at hr ⊢
    split
    ·exact updT_at (.inr hr)
    ·exact hr
end
section
variable {K : Orc}
theorem gM_cons (o : AO) (r : List AO) (out : TOut) (outs : List TOut) (g0 : Nat → AVal) : ∀ j,gM (o :: r) (out :: outs) every g0 (j + 1) = gM r outs every (fun t => if o.dst = some t then out.1 else g0 t) j
 | 0 => by
  funext t
  simp [gM,dstAt,outAt]
 | j + 1 => by
  funext t
  rw [gM,gM_cons o r out outs g0 j,gM]
  simp [dstAt,outAt]
theorem rM_cons (out : TOut) (outs : List TOut) (ρ0 : TLook) : ∀ j,rM (out :: outs) every ρ0 (j + 1) = rM outs every (updT ρ0 out.2) j
 | 0 => by simp [rM,outAt]
 | j + 1 => by
  rw [rM,rM_cons out outs ρ0 j,rM]
  simp [outAt]
theorem logAt_append_left {l l' : Log} {i : Nat} (h : ∀ p ∈ l,p.1 ≠ i) : logAt (l ++ l') i = logAt l' i:=by
 induction l with
 | nil => rfl
 | cons p r ih =>
  obtain ⟨j,a⟩:=p
  have hj : ¬ j = i:=h (j,a) (by simp)
  simp only [List.cons_append,logAt,hj,if_false]
  exact ih fun p hp => h p (by simp [hp])
theorem runOps_spec : ∀ (r : List AO) (i : Nat) (s : St) (lg : Log) (s' : St) (lg' : Log),zad7 K i r s lg = some (s',lg') →
  ∃ (outs : List TOut) (lgs : Log),outs.length = r.length ∧ lg' = lg ++ lgs ∧ (∀ p ∈ lgs,i ≤ p.1) ∧
   (∀ j o,r[j]? = some o → aoE K o (gM r outs every (gE s.env) j) (rM outs every (gT s.objs) j) = some (outAt outs j) ∧
    (o.lg = true → logAt lgs (i + j) = ⟨zce7 o.k (gM r outs every (gE s.env) j) (rM outs every (gT s.objs) j),zsc7 outs j,chgOf (rM outs every (gT s.objs) j) (outAt outs j).2⟩)) ∧
   gE s'.env = gM r outs every (gE s.env) r.length ∧ gT s'.objs = rM outs every (gT s.objs) r.length
 | [],i,s,lg,s',lg',h => by
  simp only [zad7,Option.some.injEq,Prod.mk.injEq] at h
  obtain ⟨rfl,rfl⟩:=h
  exact ⟨[],[],rfl,by simp,by simp,by simp,rfl,rfl⟩
 | o :: r,i,s,lg,s',lg',h => by
  simp only [zad7] at h
  split at h
  ·cases h
  ·rename_i out ho
   obtain ⟨outs,lgs,h1,h2,h3,h4,h5,h6⟩:=runOps_spec r _ _ _ _ _ h
   have eg : gE (putE s.env o.dst out.1) = fun t => if o.dst = some t then out.1 else gE s.env t:=by
    funext t; exact gE_putE _ _ _ _
   simp only [eg,gT_pTs] at h4 h5 h6
   refine ⟨out :: outs,logOf o i (gE s.env) (gT s.objs) out ++ lgs,by simp [h1],by rw [h2,List.append_assoc],?_,?_,?_,?_⟩
   ·intro p hp
    rcases List.mem_append.1 hp with hp | hp
    ·unfold logOf at hp
     split at hp
     ·simp at hp; subst hp; exact Nat.le_refl _
     ·cases hp
    ·have:=h3 p hp; omega
   ·intro j o' hj
    cases j with
    | zero =>
     simp at hj
     subst hj
     refine ⟨by simpa [gM,rM,outAt] using ho,fun hl => ?_⟩
     simp [logOf,hl,logAt,gM,rM,zsc7,outAt]
    | succ j =>
     simp at hj
     obtain ⟨a1,a2⟩:=h4 j o' hj
     rw [gM_cons,rM_cons]
     refine ⟨by simpa [outAt] using a1,fun hl => ?_⟩
     rw [logAt_append_left,show i + (j + 1) = i + 1 + j by omega,a2 hl]
     ·simp [zsc7,outAt]
     ·intro p hp
      unfold logOf at hp
      split at hp
      ·simp at hp; subst hp; simp
      ·cases hp
   ·rw [h5,List.length_cons,gM_cons]
   ·rw [h6,List.length_cons,rM_cons]
end
theorem updT_filter (p : RId → Bool) : ∀ (upd : List (RId × TObj)) (T : TLook) (x : RId),updT T (upd.filter fun u => p u.1) x = if p x = true then updT T upd x else T x
 | [],T,x => by simp [updT]
 | (i,o) :: r,T,x => by
  simp only [List.filter_cons]
  split
  ·rename_i hp
   simp only [updT]
   rw [updT_filter p r]
   split
   ·rfl
   ·rename_i hx
    have : i ≠ x:=by rintro rfl; exact hx hp
    simp [this]
  ·rename_i hp
   rw [updT_filter p r]
   simp only [updT]
   split
   ·rename_i hx
    have hne : i ≠ x:=by rintro rfl; exact hp hx
    exact updT_at (.inr (by simp [hne]))
   ·rfl
theorem slim_upd {T T' : TLook} {upd : List (RId × TObj)} (h : ∀ x ∈ upd.map (·.1),T' x = T x) : updT T' (slim T upd) = updT T' upd:=by
 funext x
 unfold slim
 rw [updT_filter (fun r => !sameAt T upd r)]
 split
 ·rfl
 ·rename_i hx
  simp only [Bool.not_eq_true',Bool.not_eq_false] at hx
  by_cases hm : x ∈ upd.map (·.1)
  ·rw [h x hm,← sameAt_eq hx]
   exact updT_at (.inl hm)
  ·rw [zhf7 hm]
def zfd7 (T : TLook) : List TOut → List TOut
 | [] => []
 | out :: r => (out.1,slim T out.2) :: zfd7 (updT T out.2) r
theorem slimAll_fst : ∀ (outs : List TOut) (T : TLook) (k : Nat),(outAt (zfd7 T outs) k).1 = (outAt outs k).1
 | [],T,k => by simp [zfd7,outAt]
 | out :: r,T,0 => by simp [zfd7,outAt]
 | out :: r,T,k + 1 => by
  have:=slimAll_fst r (updT T out.2) k
  simpa [zfd7,outAt] using this
theorem zve7 : ∀ (outs : List TOut) (T : TLook) (k : Nat),(outAt (zfd7 T outs) k).2 = slim (rM outs every T k) (outAt outs k).2
 | [],T,k => by simp [zfd7,outAt,slim]
 | out :: r,T,0 => by simp [zfd7,outAt,rM]
 | out :: r,T,k + 1 => by
  have:=zve7 r (updT T out.2) k
  rw [rM_cons]
  simpa [zfd7,outAt] using this
theorem zme7 (outs : List TOut) (T : TLook) : ∀ k,rM (zfd7 T outs) every T k = rM outs every T k
 | 0 => rfl
 | k + 1 => by
  rw [rM,rM,zme7 outs T k,zve7]
  rw [slim_upd (fun _ _ => rfl)]
theorem slimAll_gM (aos : List AO) (outs : List TOut) (T : TLook) (g0 : Nat → AVal) : ∀ k,gM aos (zfd7 T outs) every g0 k = gM aos outs every g0 k
 | 0 => rfl
 | k + 1 => by
  funext t
  rw [gM,gM,slimAll_gM aos outs T g0 k,slimAll_fst]
theorem slimAll_keys (outs : List TOut) (T : TLook) (k : Nat) : zsc7 (zfd7 T outs) k = chgOf (rM outs every T k) (outAt outs k).2:=by
 unfold zsc7 chgOf
 rw [zve7]
theorem chgOf_sub {T : TLook} {upd : List (RId × TObj)} {x : RId} (hx : x ∈ chgOf T upd) : x ∈ upd.map (·.1):=by
 obtain ⟨u,h1,h2⟩:=List.mem_map.1 hx
 exact List.mem_map.2 ⟨u,(List.mem_filter.1 h1).1,h2⟩
theorem meets_sub {a a' b b' : List RId} (h : meets a b = false) (ha : ∀ x ∈ a',x ∈ a) (hb : ∀ x ∈ b',x ∈ b) : meets a' b' = false:=by
 cases e : meets a' b' with
 | false => rfl
 | true =>
  simp only [meets,List.any_eq_true] at e
  obtain ⟨x,h1,h2⟩:=e
  have : meets a b = true:=by
   simp only [meets,List.any_eq_true]
   exact ⟨x,ha x h1,by simpa using hb x (by simpa using h2)⟩
  rw [h] at this
  cases this
theorem pairK_apart {a b : LogE} (ha : ∀ x ∈ a.chg,x ∈ a.upd) (hb : ∀ x ∈ b.chg,x ∈ b.upd) (h : pairK a b (apart a b) = true) :
  ((meets a.chg b.seen = false ∧ meets a.chg b.upd = false) ∧ meets a.seen b.chg = false) ∧ meets a.upd b.chg = false:=by
 cases e : apart a b with
 | false =>
  rw [e] at h
  simpa [pairK,apartC] using h
 | true =>
  simp only [apart,Bool.and_eq_true,Bool.not_eq_true'] at e
  obtain ⟨⟨h1,h2⟩,h3⟩:=e
  exact ⟨⟨⟨meets_sub h1 ha fun _ h => h,meets_sub h2 ha fun _ h => h⟩,meets_sub h3 (fun _ h => h) hb⟩,meets_sub h2 (fun _ h => h) hb⟩
theorem maskOf_bit {acc : List Nat} : ∀ {l : List Nat} {j : Nat},(maskOf acc l).testBit j = true → ∃ e ∈ l,j = e ∨ (acc.getD e 0).testBit j = true
 | [],j,h => by simp [maskOf] at h
 | e :: r,j,h => by
  simp only [maskOf,Nat.testBit_or,Bool.or_eq_true] at h
  rcases h with (h | h) | h
  ·rw [Nat.testBit_two_pow] at h
   exact ⟨e,by simp,.inl (of_decide_eq_true h).symm⟩
  ·exact ⟨e,by simp,.inr h⟩
  ·obtain ⟨e',h1,h2⟩:=maskOf_bit h
   exact ⟨e',by simp [h1],h2⟩
theorem befs_spec : ∀ (ops : List Oper) (acc : List Nat),∃ l,befs ops acc = acc ++ l ∧ l.length = ops.length ∧
  ∀ j o,ops[j]? = some o → (befs ops acc).getD (acc.length + j) 0 = maskOf ((befs ops acc).take (acc.length + j)) (edges o)
 | [],acc => ⟨[],by simp [befs],rfl,by simp⟩
 | o :: r,acc => by
  obtain ⟨l,h1,h2,h3⟩:=befs_spec r (acc ++ [maskOf acc (edges o)])
  simp only [befs]
  refine ⟨maskOf acc (edges o) :: l,by rw [h1]; simp,by simp [h2],fun j o' hj => ?_⟩
  cases j with
  | zero =>
   simp at hj
   subst hj
   rw [h1]
   simp
  | succ j =>
   simp at hj
   have:=h3 j o' hj
   rw [show acc.length + (j + 1) = (acc ++ [maskOf acc (edges o)]).length + j by simp; omega]
   exact this
theorem befs_closed {ops : List Oper} {D : Nat → Bool} (hD : ∀ i o,ops[i]? = some o → D i = true → ∀ e ∈ edges o,D e = true) : ∀ (i : Nat) (o : Oper),ops[i]? = some o → (∀ e ∈ edges o,D e = true) →
  ∀ j,((befs ops []).getD i 0).testBit j = true → D j = true:=by
 intro i
 induction i using Nat.strongRecOn with
 | _ i ih =>
  intro o ho he j hj
  obtain ⟨l,h1,h2,h3⟩:=befs_spec ops []
  have h4:=h3 i o ho
  simp only [List.length_nil,Nat.zero_add] at h4
  rw [h4] at hj
  obtain ⟨e,he1,he2⟩:=maskOf_bit hj
  have hDe:=he e he1
  rcases he2 with rfl | he2
  ·exact hDe
  ·by_cases hei : e < i
   ·have hbe : ((befs ops []).take i).getD e 0 = (befs ops []).getD e 0:=by
     simp [List.getD_eq_getElem?_getD,List.getElem?_take,hei]
    rw [hbe] at he2
    have hlt : i < ops.length:=(List.getElem?_eq_some_iff.1 ho).1
    have hoe : ops[e]? = some ops[e]:=by simp
    exact ih e hei ops[e] hoe (hD e _ hoe hDe) j he2
   ·have : ((befs ops []).take i).getD e 0 = 0:=by
     simp only [List.getD_eq_getElem?_getD,List.getElem?_take,hei,if_false]
     rfl
    rw [this] at he2
    simp at he2
theorem clashes_spec {aos : List AO} {bs : List Nat} : ∀ {n : Nat},clashes aos bs n = false → ∀ i j,i < j → j < n → ((bs.getD j 0).testBit i = true) ∨ ∀ a b,aos[i]? = some a → aos[j]? = some b → zue7 a b = false
 | 0,_,i,j,_,h => by omega
 | n + 1,h,i,j,hij,hj => by
  simp only [clashes,Bool.or_eq_false_iff] at h
  by_cases e : j = n
  ·subst e
   have:=h.2
   rw [List.any_eq_false] at this
   have h':=this i (by simpa using hij)
   cases hb : (bs.getD j 0).testBit i with
   | true => exact .inl rfl
   | false =>
    right
    intro a b ha hb'
    simp only [hb,ha,hb',Bool.not_false,Bool.true_and,Bool.not_eq_true] at h'
    exact h'
  ·exact clashes_spec h.1 i j hij (by omega)
theorem pairsOf_spec {ops : List Oper} {ks : List AK} {bs : List Nat} : ∀ {n : Nat} (i j : Nat),i < j → j < n → ((bs.getD j 0).testBit i = true) ∨ (i,j) ∈ pairsOf ops ks bs n ∨
  ∀ a b,ks[i]? = some a → ks[j]? = some b → (a.kind = 2 → b.kind = 0) ∧ (b.kind = 2 → a.kind = 0)
 | 0,i,j,_,h => by omega
 | n + 1,i,j,hij,hj => by
  by_cases e : j = n
  ·subst e
   cases hb : (bs.getD j 0).testBit i with
   | true => exact .inl rfl
   | false =>
    right
    cases ha : ks[i]? with
    | none => exact .inr fun a b h _ => by cases h
    | some a =>
     cases hc : ks[j]? with
     | none => exact .inr fun a b _ h => by cases h
     | some b =>
      by_cases hq : ((a.kind == 2 && b.kind != 0) || (b.kind == 2 && a.kind != 0)) = true
      ·left
       simp only [pairsOf,List.mem_append]
       right
       rw [List.mem_filterMap]
       refine ⟨i,by simpa using hij,?_⟩
       simp only [hb,ha,hc,Bool.false_eq_true,if_false,hq,if_true]
      ·right
       intro a' b' h1 h2
       cases h1
       cases h2
       simp at hq
       exact ⟨fun h => hq.1 h,fun h => hq.2 h⟩
  ·rcases pairsOf_spec (ops:=ops) (ks:=ks) (bs:=bs) (n:=n) i j hij (by omega) with h | h | h
   ·exact .inl h
   ·exact .inr (.inl (by simp only [pairsOf,List.mem_append]; exact .inl h))
   ·exact .inr (.inr h)
end Go.Am

namespace Go.Am
variable [Glob]
structure GoodF (B : Base) (C0 C : Ctx) (n : Nat) (g : Nat → AVal) (T : TLook) (a : Act) : Prop where
 ρ : C.ρ = flat T
 inv : Inv B C
 env : RepE C g a
 size : a.tmps.size = n
 ext : Ext (fun i => i) (fun id => id.1.1 = 0) C0 C
 defers : a.defers = marks B.ds
 ds : B.dsOK C0
 le : C0.w.heap.size ≤ B.w.heap.size ∧ B.ds.Nodup
theorem Good.f {B : Base} {C0 C : Ctx} {n : Nat} {s : St} {a : Act} (h : Good B C0 C n s a) : GoodF B C0 C n (gE s.env) (gT s.objs) a:=⟨h.ρ,h.inv,h.env,h.size,h.ext,h.defers,h.ds,h.le⟩
theorem GoodF.good {B : Base} {C0 C : Ctx} {n : Nat} {s : St} {a : Act} (h : GoodF B C0 C n (gE s.env) (gT s.objs) a) : Good B C0 C n s a:=⟨h.ρ,h.inv,h.env,h.size,h.ext,h.defers,h.ds,h.le⟩
theorem cOpers_get {P : Program} {n : Nat} {ms : List (Nat × Mk)} {ops : List Oper} : ∀ {r : List Oper} {i : Nat} {l : List (AK × Option (Nat × Bool))},cOpers P n ms ops i r = some l →
  l.length = r.length ∧ ∀ j o,r[j]? = some o → ∃ k g,l[j]? = some (k,g) ∧ cOper P n ms ops (i + j) o = some (k,g)
 | [],i,l,h => by
  simp only [cOpers,Option.some.injEq] at h
  subst h
  simp
 | o :: r,i,l,h => by
  simp only [cOpers] at h
  split at h
  ·rename_i x l' h1 h2
   simp only [Option.some.injEq] at h
   subst h
   obtain ⟨e1,e2⟩:=cOpers_get h2
   refine ⟨by simp [e1],fun j o' hj => ?_⟩
   cases j with
   | zero =>
    simp at hj
    subst hj
    exact ⟨x.1,x.2,rfl,h1⟩
   | succ j =>
    simp at hj
    obtain ⟨k,g,e3,e4⟩:=e2 j o' hj
    exact ⟨k,g,by simpa using e3,by rw [show i + (j + 1) = i + 1 + j by omega]; exact e4⟩
  ·cases h
theorem aosOf_get {ps : List (Nat × Nat)} : ∀ {r : List Oper} {l : List (AK × Option (Nat × Bool))} {i : Nat},l.length = r.length →
  (aosOf ps i r l).length = r.length ∧ ∀ (j : Nat) (o : Oper) (k : AK) (g : Option (Nat × Bool)),r[j]? = some o → l[j]? = some (k,g) → (aosOf ps i r l)[j]? = some (⟨o.dst,k,g,ps.any fun p => p.1 == i + j || p.2 == i + j⟩ : AO)
 | [],l,i,h => by cases l <;> simp [aosOf]
 | o :: r,[],i,h => by simp at h
 | o :: r,(k,g) :: l,i,h => by
  obtain ⟨e1,e2⟩:=aosOf_get (ps:=ps) (r:=r) (l:=l) (i:=i + 1) (by simpa using h)
  refine ⟨by simp [aosOf,e1],fun j o' k' g' h1 h2 => ?_⟩
  cases j with
  | zero =>
   simp at h1 h2
   obtain ⟨rfl,rfl⟩:=h2
   subst h1
   simp [aosOf]
  | succ j =>
   simp at h1 h2
   have:=e2 j o' k' g' h1 h2
   simp only [aosOf,List.getElem?_cons_succ]
   rw [this,show i + 1 + j = i + (j + 1) by omega]
section
variable {P : Program} {B : Base} {C0 : Ctx} {K : Orc} {n : Nat} {rd : Option Nat}
theorem wpOp_good (hS : zbe7 P K) {ops : Array Oper} {Q : Exit → Act → World → Prop} {i : Nat} {o : Oper} (hi : ops[i]? = some o) {ms : List (Nat × Mk)} {k : AK} {gd : Option (Nat × Bool)} (hc : cOper P n ms ops.toList i o = some (k,gd)) {lg : Bool}
  {C : Ctx} {g : Nat → AVal} {ρ : TLook} {a : Act} (h : GoodF B C0 C n g ρ a) {out : TOut} (ho : aoE K ⟨o.dst,k,gd,lg⟩ g ρ = some out) {next : Act → World → Prop}
  (hnext : ∀ a' C',GoodF B C0 C' n (fun t => if o.dst = some t then out.1 else g t) (updT ρ out.2) a' → next a' C'.w) :
  wpOpIn (fR rd) 0 P ops Q i next a C.w:=by
 refine wpOp_sound hS hi hc h.inv h.ρ h.env h.size ho fun val C' e1 e2 e3 e4 e5 => ?_
 refine hnext _ C' ⟨e1,e2,e4,e5,h.ext.thenGrow e3,?_,h.ds,h.le⟩
 have:=h.defers
 cases o.dst <;> simpa [Act.put] using this
theorem seq_sound (hS : zbe7 P K) {ops : Array Oper} {Q : Exit → Act → World → Prop} {ms : List (Nat × Mk)} {l : List (AK × Option (Nat × Bool))} (hl : cOpers P n ms ops.toList 0 ops.toList = some l) {ps : List (Nat × Nat)} :
  ∀ (m i : Nat) (s : St) (lg : Log) (s' : St) (lg' : Log) (C : Ctx) (a : Act),i + m = ops.size → zad7 K i ((aosOf ps 0 ops.toList l).drop i) s lg = some (s',lg') → GoodF B C0 C n (gE s.env) (gT s.objs) a →
   (∀ a' C',GoodF B C0 C' n (gE s'.env) (gT s'.objs) a' → Q .normal a' C'.w) → wpOpsIn (fR rd) 0 P ops Q (List.range' i m) a C.w:=by
 obtain ⟨hlen,hget⟩:=cOpers_get hl
 obtain ⟨alen,aget⟩:=aosOf_get (ps:=ps) (i:=0) hlen
 intro m
 induction m with
 | zero =>
  intro i s lg s' lg' C a hi h hG hQ
  rw [List.drop_of_length_le (by rw [alen]; simp; omega)] at h
  simp only [zad7,Option.some.injEq,Prod.mk.injEq] at h
  obtain ⟨rfl,rfl⟩:=h
  simp only [List.range'_zero,wpOpsIn]
  exact hQ a C hG
 | succ m ih =>
  intro i s lg s' lg' C a hi h hG hQ
  have hlt : i < ops.size:=by omega
  have ho : ops[i]? = some ops[i]:=by simp [hlt]
  have ho' : ops.toList[i]? = some ops[i]:=by simp [hlt]
  obtain ⟨k,g,e1,e2⟩:=hget i _ ho'
  rw [Nat.zero_add] at e2
  have ea:=aget i _ k g ho' e1
  have hd : (aosOf ps 0 ops.toList l).drop i = ⟨ops[i].dst,k,g,ps.any fun p => p.1 == 0 + i || p.2 == 0 + i⟩ :: (aosOf ps 0 ops.toList l).drop (i + 1):=by
   have hl2 : i < (aosOf ps 0 ops.toList l).length:=by rw [alen]; simpa using hlt
   rw [List.drop_eq_getElem_cons hl2]
   congr 1
   rw [List.getElem?_eq_getElem hl2] at ea
   exact Option.some.inj ea
  rw [hd] at h
  simp only [zad7] at h
  split at h
  ·cases h
  ·rename_i out hout
   rw [List.range'_succ,wpOpsIn_cons]
   refine wpOp_good hS ho e2 hG hout fun a' C' hG' => ?_
   refine ih (i + 1) _ _ _ _ C' a' (by omega) h ?_ hQ
   have eg : gE (putE s.env ops[i].dst out.1) = fun t => if ops[i].dst = some t then out.1 else gE s.env t:=by
    funext t; exact gE_putE _ _ _ _
   simp only [eg,gT_pTs]
   exact hG'
theorem countP_lt_of {α : Type} {p q : α → Bool} (h : ∀ x,q x = true → p x = true) : ∀ {l : List α} {x : α},x ∈ l → p x = true → q x = false → l.countP q < l.countP p
 | y :: r,x,hx,hp,hq => by
  have hle : r.countP q ≤ r.countP p:=by
   clear hx
   induction r with
   | nil => simp
   | cons z r ih =>
    simp only [List.countP_cons]
    have:=h z
    cases hz : q z <;> cases hz' : p z <;> simp_all <;> omega
  simp only [List.countP_cons]
  cases hx with
  | head => simp [hp,hq]; omega
  | tail _ hx =>
   have:=countP_lt_of h hx hp hq
   have:=h y
   cases hz : q y <;> cases hz' : p y <;> simp_all <;> omega
theorem meets_mem {a b : List RId} {x : RId} (ha : x ∈ a) (hb : x ∈ b) : meets a b = true:=by
 simp only [meets,List.any_eq_true]
 exact ⟨x,ha,by simpa using hb⟩
theorem aoE_quiet {o : AO} {g : Nat → AVal} {ρ : TLook} {out : TOut} (h : aoE K o g ρ = some out) (hk : o.k.kind ≠ 2) : out.2 = []:=by
 unfold aoE at h
 split at h
 ·exact opT_quiet K _ h hk
 ·split at h
  ·split at h
   ·exact opT_quiet K _ h hk
   ·cases h; rfl
  ·cases h; rfl
  ·cases h
theorem aoE_frame {o : AO} {g g' : Nat → AVal} {ρ ρ' : TLook} {out : TOut} (h : aoE K o g ρ = some out) (hs : ∀ t ∈ o.seen,g' t = g t) (hρ : o.k.kind ≠ 0 → ∀ i,i ∈ zce7 o.k g ρ ∨ i ∈ out.2.map (·.1) → ρ' i = ρ i) : aoE K o g' ρ' = some out:=by
 have hop : opT K (o.dst.getD 0) o.k g ρ = some out → opT K (o.dst.getD 0) o.k g' ρ' = some out:=by
  intro h
  rw [opT_slots K _ ρ' (fun t ht => hs t (List.mem_append.2 (.inl ht)))]
  by_cases hk : o.k.kind = 0
  ·rw [opT_blind K _ hk]; exact h
  ·exact opT_objs K _ h (hρ hk)
 unfold aoE at h ⊢
 cases hg : o.guard with
 | none => rw [hg] at h; exact hop h
 | some tw =>
  obtain ⟨t,want⟩:=tw
  rw [hg] at h
  simp only at h ⊢
  rw [hs t (by simp [AO.seen,hg])]
  split at h
  ·rename_i b hb
   split at h
   ·rename_i hbw
    rw [if_pos hbw]
    exact hop h
   ·rename_i hbw
    rw [if_neg hbw]
    exact h
  ·exact h
  ·cases h
theorem edgesOk_spec : ∀ {r : List Oper} {i : Nat},edgesOk i r = true → ∀ j o,r[j]? = some o → ∀ e ∈ edges o,e < i + j
 | [],i,h,j,o,ho => by simp at ho
 | o :: r,i,h,j,o',ho => by
  simp only [edgesOk,Bool.and_eq_true,List.all_eq_true,decide_eq_true_eq] at h
  cases j with
  | zero =>
   simp at ho
   subst ho
   simpa using h.1
  | succ j =>
   simp at ho
   have:=edgesOk_spec h.2 j o' ho
   intro e he
   have:=this e he
   omega
structure Drawn (K : Orc) (P : Program) (n : Nat) (ms : List (Nat × Mk)) (ops : Array Oper) (aos : List AO) (outs fulls : List TOut) (g0 : Nat → AVal) (ρ0 : TLook) : Prop where
 len : aos.length = ops.size
 ao : ∀ i o,ops[i]? = some o → ∃ k gd lg,aos[i]? = some ⟨o.dst,k,gd,lg⟩ ∧ cOper P n ms ops.toList i o = some (k,gd)
 run : ∀ j o,aos[j]? = some o → aoE K o (gM aos outs every g0 j) (rM outs every ρ0 j) = some (outAt fulls j)
 val : ∀ j,(outAt outs j).1 = (outAt fulls j).1
 upd : ∀ j T',(∀ x ∈ zsc7 fulls j,T' x = rM outs every ρ0 j x) → updT T' (outAt outs j).2 = updT T' (outAt fulls j).2
 sub : ∀ j x,x ∈ zsc7 outs j → x ∈ zsc7 fulls j
 edge : ∀ i o,ops[i]? = some o → ∀ e ∈ edges o,e < i
 slot : ∀ i j,i < j → j < ops.size → ((befs ops.toList []).getD j 0).testBit i = true ∨ ∀ a b,aos[i]? = some a → aos[j]? = some b → zue7 a b = false
 objs : ∀ i j,i < j → j < ops.size → ((befs ops.toList []).getD j 0).testBit i = true ∨ ∀ a b,aos[i]? = some a → aos[j]? = some b →
  ((a.k.kind = 2 → b.k.kind = 0) ∧ (b.k.kind = 2 → a.k.kind = 0)) ∨
  (∀ x,(x ∈ zce7 a.k (gM aos outs every g0 i) (rM outs every ρ0 i) ∨ x ∈ zsc7 fulls i) → x ∈ zsc7 outs j → False) ∧
  (∀ x,(x ∈ zce7 b.k (gM aos outs every g0 j) (rM outs every ρ0 j) ∨ x ∈ zsc7 fulls j) → x ∈ zsc7 outs i → False)
section
variable {ms : List (Nat × Mk)} {ops : Array Oper} {aos : List AO} {outs fulls : List TOut} {g0 : Nat → AVal} {ρ0 : TLook} {D : Nat → Bool}
theorem Drawn.dst (H : Drawn K P n ms ops aos outs fulls g0 ρ0) {i : Nat} {o : Oper} (ho : ops[i]? = some o) : dstAt aos i = o.dst:=by
 obtain ⟨k,gd,lg,h,_⟩:=H.ao i o ho
 simp [dstAt,h]
theorem Drawn.before (H : Drawn K P n ms ops aos outs fulls g0 ρ0) (hD : ∀ i o,ops[i]? = some o → D i = true → ∀ e ∈ edges o,D e = true) {i : Nat} {o : Oper} (ho : ops[i]? = some o) (he : ∀ e ∈ edges o,D e = true) {j : Nat}
  (hj : ((befs ops.toList []).getD i 0).testBit j = true) : D j = true :=
 befs_closed (ops:=ops.toList) (D:=D) (fun i o h => hD i o (by simpa using h)) i o (by simpa using ho) he j hj
theorem Drawn.sees (H : Drawn K P n ms ops aos outs fulls g0 ρ0) (hD : ∀ i o,ops[i]? = some o → D i = true → ∀ e ∈ edges o,D e = true) {i : Nat} {o : Oper} (ho : ops[i]? = some o) (he : ∀ e ∈ edges o,D e = true) (hi : D i = false)
  {a : AO} (ha : aos[i]? = some a) {t : Nat} (ht : t ∈ a.seen) : gM aos outs D g0 ops.size t = gM aos outs every g0 i t:=by
 have hlt : i < ops.size:=(Array.getElem?_eq_some_iff.1 ho).1
 refine gM_agree (fun k hk hd => ?_) ops.size (Nat.le_of_lt hlt) fun k hk hk' hd => ?_
 ·rcases H.slot k i hk hlt with h | h
  ·exact H.before hD ho he h
  ·obtain ⟨b,hb⟩ : ∃ b,aos[k]? = some b:=⟨aos[k]'(by rw [H.len]; omega),by simp⟩
   have:=h b a hb ha
   simp only [dstAt,hb,Option.bind_some] at hd
   simp [zue7,hd] at this
   exact absurd ht this.1.1
 ·by_cases e : k = i
  ·subst e; exact hi
  ·rcases H.slot i k (by omega) hk' with h | h
   ·cases hDk : D k with
    | false => rfl
    | true =>
     have hok : ops[k]? = some ops[k]:=by simp [hk']
     have:=H.before hD hok (hD k _ hok hDk) h
     rw [hi] at this
     cases this
   ·obtain ⟨b,hb⟩ : ∃ b,aos[k]? = some b:=⟨aos[k]'(by rw [H.len]; omega),by simp⟩
    have:=h a b ha hb
    simp only [dstAt,hb,Option.bind_some] at hd
    simp [zue7,hd] at this
    exact absurd ht this.2
theorem Drawn.quiet (H : Drawn K P n ms ops aos outs fulls g0 ρ0) {k : Nat} {b : AO} (hb : aos[k]? = some b) (hk : b.k.kind ≠ 2) : zsc7 outs k = []:=by
 have h:=aoE_quiet (H.run k b hb) hk
 rw [List.eq_nil_iff_forall_not_mem]
 intro x hx
 have:=H.sub k x hx
 simp [zsc7,h] at this
theorem Drawn.meets (H : Drawn K P n ms ops aos outs fulls g0 ρ0) (hD : ∀ i o,ops[i]? = some o → D i = true → ∀ e ∈ edges o,D e = true) {i : Nat} {o : Oper} (ho : ops[i]? = some o) (he : ∀ e ∈ edges o,D e = true) (hi : D i = false)
  {a : AO} (ha : aos[i]? = some a) {x : RId} (hk0 : a.k.kind ≠ 0) (hx : x ∈ zce7 a.k (gM aos outs every g0 i) (rM outs every ρ0 i) ∨ x ∈ zsc7 fulls i) :
  (∀ k,k < i → x ∈ zsc7 outs k → D k = true) ∧ (∀ k,i ≤ k → k < ops.size → x ∈ zsc7 outs k → D k = false):=by
 have hlt : i < ops.size:=(Array.getElem?_eq_some_iff.1 ho).1
 refine ⟨fun k hk hd => ?_,fun k hk hk' hd => ?_⟩
 ·rcases H.objs k i hk hlt with h | h
  ·exact H.before hD ho he h
  ·obtain ⟨b,hb⟩ : ∃ b,aos[k]? = some b:=⟨aos[k]'(by rw [H.len]; omega),by simp⟩
   rcases h b a hb ha with h | h
   ·by_cases hb2 : b.k.kind = 2
    ·exact absurd (h.1 hb2) hk0
    ·rw [H.quiet hb hb2] at hd; cases hd
   ·exact (h.2 x hx hd).elim
 ·by_cases e : k = i
  ·subst e; exact hi
  ·rcases H.objs i k (by omega) hk' with h | h
   ·cases hDk : D k with
    | false => rfl
    | true =>
     have hok : ops[k]? = some ops[k]:=by simp [hk']
     have:=H.before hD hok (hD k _ hok hDk) h
     rw [hi] at this
     cases this
   ·obtain ⟨b,hb⟩ : ∃ b,aos[k]? = some b:=⟨aos[k]'(by rw [H.len]; omega),by simp⟩
    rcases h a b ha hb with h | h
    ·by_cases hb2 : b.k.kind = 2
     ·exact absurd (h.2 hb2) hk0
     ·rw [H.quiet hb hb2] at hd; cases hd
    ·exact (h.1 x hx hd).elim
theorem Drawn.answers (H : Drawn K P n ms ops aos outs fulls g0 ρ0) (hD : ∀ i o,ops[i]? = some o → D i = true → ∀ e ∈ edges o,D e = true) {i : Nat} {o : Oper} (ho : ops[i]? = some o) (he : ∀ e ∈ edges o,D e = true) (hi : D i = false)
  {a : AO} (ha : aos[i]? = some a) : aoE K a (gM aos outs D g0 ops.size) (rM outs D ρ0 ops.size) = some (outAt fulls i):=by
 have hlt : i < ops.size:=(Array.getElem?_eq_some_iff.1 ho).1
 refine aoE_frame (H.run i a ha) (fun t ht => H.sees hD ho he hi ha ht) fun hk x hx => ?_
 obtain ⟨h1,h2⟩:=H.meets hD ho he hi ha hk hx
 exact rM_agree h1 ops.size (Nat.le_of_lt hlt) h2
theorem Drawn.same (H : Drawn K P n ms ops aos outs fulls g0 ρ0) (hD : ∀ i o,ops[i]? = some o → D i = true → ∀ e ∈ edges o,D e = true) {i : Nat} {o : Oper} (ho : ops[i]? = some o) (he : ∀ e ∈ edges o,D e = true) (hi : D i = false)
  {a : AO} (ha : aos[i]? = some a) : updT (rM outs D ρ0 ops.size) (outAt outs i).2 = updT (rM outs D ρ0 ops.size) (outAt fulls i).2:=by
 have hlt : i < ops.size:=(Array.getElem?_eq_some_iff.1 ho).1
 refine H.upd i _ fun x hx => ?_
 by_cases hk : a.k.kind = 0
 ·have h:=aoE_quiet (H.run i a ha) (by omega)
  simp [zsc7,h] at hx
 ·obtain ⟨h1,h2⟩:=H.meets hD ho he hi ha hk (.inr hx)
  exact rM_agree h1 ops.size (Nat.le_of_lt hlt) h2
theorem Drawn.adds (H : Drawn K P n ms ops aos outs fulls g0 ρ0) (hD : ∀ i o,ops[i]? = some o → D i = true → ∀ e ∈ edges o,D e = true) {i : Nat} {o : Oper} (ho : ops[i]? = some o) (he : ∀ e ∈ edges o,D e = true) (hi : D i = false) :
  gM aos outs (addD D i) g0 ops.size = (fun t => if o.dst = some t then (outAt outs i).1 else gM aos outs D g0 ops.size t) ∧ rM outs (addD D i) ρ0 ops.size = updT (rM outs D ρ0 ops.size) (outAt outs i).2:=by
 have hlt : i < ops.size:=(Array.getElem?_eq_some_iff.1 ho).1
 obtain ⟨k0,gd,lg,ha,hc⟩:=H.ao i o ho
 refine ⟨?_,?_⟩
 ·funext t
  rw [gM_add hi t ops.size hlt,H.dst ho]
  intro k hk hk' hdi hdk
  rcases H.slot i k hk hk' with h | h
  ·cases hDk : D k with
   | false => rfl
   | true =>
    have hok : ops[k]? = some ops[k]:=by simp [hk']
    have:=H.before hD hok (hD k _ hok hDk) h
    rw [hi] at this
    cases this
  ·obtain ⟨b,hb⟩ : ∃ b,aos[k]? = some b:=⟨aos[k]'(by rw [H.len]; omega),by simp⟩
   have:=h _ b ha hb
   rw [H.dst ho] at hdi
   simp only [dstAt,hb,Option.bind_some] at hdk
   simp [zue7,hdi,hdk] at this
 ·funext x
  refine rM_add hi x ops.size hlt fun k hk hk' hxi hxk => ?_
  have hk0 : k0.kind ≠ 0:=by
   intro h0
   have:=H.quiet ha (by simp [h0])
   rw [this] at hxi
   cases hxi
  exact (H.meets hD ho he hi ha hk0 (.inr (H.sub i x hxi))).2 k (Nat.le_of_lt hk) hk' hxk
theorem mem_edges {o : Oper} {e : Nat} : e ∈ edges o ↔ ∃ x ∈ o.after,Region.binds .any x = true ∧ x.on = e:=by
 unfold edges
 simp only [List.mem_filterMap,Array.mem_toList_iff]
 constructor
 ·rintro ⟨x,h1,h2⟩
  split at h2
  ·rename_i hb
   exact ⟨x,h1,hb,by simpa using h2⟩
  ·cases h2
 ·rintro ⟨x,h1,h2,h3⟩
  exact ⟨x,h1,by rw [if_pos h2,h3]⟩
theorem any_sound (hS : zbe7 P K) (H : Drawn K P n ms ops aos outs fulls g0 ρ0) {Q : Exit → Act → World → Prop} (hQ : ∀ a' C',GoodF B C0 C' n (gM aos outs every g0 ops.size) (rM outs every ρ0 ops.size) a' → Q .normal a' C'.w) :
  ∀ (fuel : Nat) (listed : Array Bool) (a : Act) (C : Ctx),listed.size = ops.size →
   (∀ i o,ops[i]? = some o → listed.getD i false = true → ∀ e ∈ edges o,listed.getD e false = true) →
   GoodF B C0 C n (gM aos outs (fun i => listed.getD i false) g0 ops.size) (rM outs (fun i => listed.getD i false) ρ0 ops.size) a →
   (List.range ops.size).countP (fun i => !listed.getD i false) ≤ fuel → wpAnyIn (fR rd) 0 P .any ops Q fuel listed a C.w:=by
 intro fuel
 have tf : ∀ (listed : Array Bool) (i : Nat),listed.size = ops.size → i < ops.size → listed.getD i true = listed.getD i false:=by
  intro listed i hs hi
  have : i < listed.size:=by omega
  simp [Array.getD,this]
 have done : ∀ (listed : Array Bool) (a : Act) (C : Ctx),listed.size = ops.size → Region.ready .any ops listed = [] →
   GoodF B C0 C n (gM aos outs (fun i => listed.getD i false) g0 ops.size) (rM outs (fun i => listed.getD i false) ρ0 ops.size) a → Q .normal a C.w:=by
  intro listed a C hs hr hG
  have all : ∀ i,i < ops.size → listed.getD i false = true:=by
   intro i
   induction i using Nat.strongRecOn with
   | _ i ih =>
    intro hi
    cases hf : listed.getD i false with
    | true => rfl
    | false =>
     have : i ∈ Region.ready .any ops listed:=by
      rw [mem_ready]
      have hok : ops[i]? = some ops[i]:=by simp [hi]
      refine ⟨by rw [tf listed i hs hi,hf],ops[i],hok,fun e he hb => ?_⟩
      have:=H.edge i _ hok e.on (mem_edges.2 ⟨e,he,hb,rfl⟩)
      exact ih e.on this (by omega)
     rw [hr] at this
     cases this
  have e1 : gM aos outs (fun i => listed.getD i false) g0 ops.size = gM aos outs every g0 ops.size:=by
   funext t
   exact gM_agree (fun k hk _ => all k hk) ops.size (Nat.le_refl _) (fun k h1 h2 _ => by omega)
  have e2 : rM outs (fun i => listed.getD i false) ρ0 ops.size = rM outs every ρ0 ops.size:=by
   funext t
   exact rM_agree (fun k hk _ => all k hk) ops.size (Nat.le_refl _) (fun k h1 h2 _ => by omega)
  rw [e1,e2] at hG
  exact hQ a C hG
 induction fuel with
 | zero =>
  intro listed a C hs hD hG hc
  have hr : Region.ready .any ops listed = []:=by
   rw [List.eq_nil_iff_forall_not_mem]
   intro j hj
   obtain ⟨h0,o,ho,_⟩:=mem_ready.1 hj
   have hlt : j < ops.size:=(Array.getElem?_eq_some_iff.1 ho).1
   rw [tf listed j hs hlt] at h0
   have : 0 < (List.range ops.size).countP (fun i => !listed.getD i false):=by
    rw [List.countP_pos_iff]
    exact ⟨j,by simpa using hlt,by simp only [h0,Bool.not_false]⟩
   omega
  exact ⟨hr,done listed a C hs hr hG⟩
 | succ fuel ih =>
  intro listed a C hs hD hG hc
  refine ⟨fun hr => done listed a C hs hr hG,fun i hi => ?_⟩
  obtain ⟨h0,o,ho,hall⟩:=mem_ready.1 hi
  have hlt : i < ops.size:=(Array.getElem?_eq_some_iff.1 ho).1
  rw [tf listed i hs hlt] at h0
  have he : ∀ e ∈ edges o,listed.getD e false = true:=by
   intro e hee
   obtain ⟨x,h1,h2,rfl⟩:=mem_edges.1 hee
   exact hall x h1 h2
  obtain ⟨k,gd,lg,ha,hco⟩:=H.ao i o ho
  have hans:=H.answers (D:=fun i => listed.getD i false) hD ho he h0 ha
  obtain ⟨ag,ar⟩:=H.adds (D:=fun i => listed.getD i false) hD ho he h0
  refine wpOp_good hS ho hco hG hans fun a' C' hG' => ?_
  rw [← H.val i,← H.same (D:=fun i => listed.getD i false) hD ho he h0 ha,← ag,← ar] at hG'
  have hset : addD (fun i => listed.getD i false) i = fun j => (listed.setIfInBounds i true).getD j false:=by
   funext j
   by_cases e : j = i
   ·subst e
    have : j < listed.size:=by omega
    simp [addD,this]
   ·have:=getD_set_ne (listed:=listed) (i:=i) (j:=j) false (fun x => e x.symm)
    rw [this]
    simp [addD,e]
  rw [hset] at hG'
  refine ih (listed.setIfInBounds i true) a' C' (by simpa using hs) ?_ hG' ?_
  ·intro j o' ho' hj e hee
   refine getD_set_true ?_
   by_cases hji : j = i
   ·subst hji
    rw [ho] at ho'
    cases ho'
    exact he e hee
   ·rw [getD_set_ne false (fun x => hji x.symm)] at hj
    exact hD j o' ho' hj e hee
  ·have:=countP_lt_of (p:=fun j => !listed.getD j false) (q:=fun j => !(listed.setIfInBounds i true).getD j false) (l:=List.range ops.size) (x:=i)
    (fun j hj => by
     cases hl : listed.getD j false with
     | false => rfl
     | true =>
      have:=getD_set_true (i:=i) hl
      simp only [this] at hj
      cases hj) (by simpa using hlt) (by simp only [h0,Bool.not_false]) (by
     have : i < listed.size:=by omega
     simp [this])
   omega
end
end
end Go.Am

namespace Go.Am
variable [Glob]
theorem gE_restrict (live : List Nat) (env : Env) (t : Nat) : gE (restrict live env) t = if t ∈ live then gE env t else .undef:=by
 induction live with
 | nil => simp [restrict,gE]
 | cons x r ih =>
  simp only [restrict,List.map_cons,gE] at ih ⊢
  by_cases e : x = t
  ·subst e; simp
  ·have e' : ¬ t = x:=fun h => e h.symm
   simp only [e,if_false,List.mem_cons,e',false_or]
   exact ih
theorem gT_zip : ∀ {ids : List RId} {os : List TObj},ids.length = os.length → ∀ (i : RId),gT (ids.zip os) i = if i ∈ ids then os[zac7 ids i]? else none
 | [],os,h,i => by simp [gT]
 | j :: r,[],h,i => by simp at h
 | j :: r,o :: os,h,i => by
  simp only [List.zip_cons_cons,gT,zac7]
  by_cases e : j = i
  ·subst e; simp
  ·have e' : ¬ i = j:=fun x => e x.symm
   rw [if_neg e,gT_zip (by simpa using h) i]
   simp only [List.mem_cons,e',false_or,e,if_false,List.getElem?_cons_succ]
theorem gE_map (f : AVal → AVal) (hf : f .undef = .undef) : ∀ (env : Env) (t : Nat),gE (env.map fun p => (p.1,f p.2)) t = f (gE env t)
 | [],t => hf.symm
 | (x,v) :: r,t => by
  simp only [List.map_cons,gE]
  split
  ·rfl
  ·exact gE_map f hf r t
theorem gE_mem : ∀ {env : Env} {t : Nat},gE env t = .undef ∨ ∃ p ∈ env,p.2 = gE env t
 | [],t => .inl rfl
 | (x,v) :: r,t => by
  simp only [gE]
  split
  ·exact .inr ⟨(x,v),by simp,rfl⟩
  ·rcases gE_mem (env:=r) (t:=t) with h | ⟨p,h1,h2⟩
   ·exact .inl h
   ·exact .inr ⟨p,by simp [h1],h2⟩
theorem gT_mem : ∀ {s : zgb7} {i : RId} {o : TObj},gT s i = some o → (i,o) ∈ s
 | [],i,o,h => by simp [gT] at h
 | (j,o') :: r,i,o,h => by
  simp only [gT] at h
  split at h
  ·rename_i e
   cases h
   subst e
   simp
  ·simp [gT_mem h]
section
variable {P : Program} {B : Base} {C0 : Ctx} {K : Orc} {n : Nat} {rd : Option Nat}
theorem Good.restrict {C : Ctx} {s : St} {a : Act} (h : Good B C0 C n s a) (live : List Nat) : Good B C0 C n ⟨Am.restrict live s.env,s.objs⟩ a:=by
 refine ⟨h.ρ,h.inv,⟨fun t => ?_,h.env.glob⟩,h.size,h.ext,h.defers,h.ds,h.le⟩
 simp only [gE_restrict]
 split
 ·exact h.env.env t
 ·simp [RepA]
theorem Good.drop {C : Ctx} {s s' : St} {a : Act} (h : Good B C0 C n s a) {drop : List Nat} (hd : dropE drop s = some s') : ∃ C',C'.w = C.w ∧ Good B C0 C' n s' a:=by
 unfold dropE at hd
 split at hd
 ·simp only [Option.some.injEq] at hd; subst hd; exact ⟨C,rfl,h⟩
 ·split at hd
  ·cases hd
  ·rename_i nm hnm
   split at hd
   ·cases hd
   ·rename_i order hcol
    split at hd
    ·cases hd
    ·rename_i os hos
     split at hd
     ·rename_i hchk
      obtain ⟨hnd,hfix⟩:=hchk
      simp only [Option.some.injEq] at hd
      subst hd
      generalize lookN nm = f at hnd hfix
      obtain ⟨r1,r2,r3,r4,_⟩:=zid7 (gT s.objs) 64 _ [] order hcol (by simp) (by simp)
      obtain ⟨g1,g2⟩:=zze7 hos
      have hlen : (order.map f).length = (os.map (TObj.tren f)).length:=by simp [g1]
      have hgo:=gT_zip hlen
      have hidx : ∀ {n : Nat} {i : RId},order[n]? = some i → zac7 (order.map f) (f i) = n:=by
       intro n i hi
       exact zvd7 hnd (by simp [hi])
      let C' : Ctx:={ C with μ:=fun j => C.μ ((order[zac7 (order.map f) j.1]?).getD (0,0),j.2),ρ:=flat (gT ((order.map f).zip (os.map (TObj.tren f)))) }
      have look1 : ∀ r,r ∈ order → ∃ o,gT s.objs r = some o ∧ gT ((order.map f).zip (os.map (TObj.tren f))) (f r) = some (o.tren f):=by
       intro r hr
       obtain ⟨n,hn⟩:=List.getElem?_of_mem hr
       obtain ⟨o,ho,_⟩:=r4 r hr
       refine ⟨o,ho,?_⟩
       simp only [hgo,List.mem_map_of_mem hr,if_true,hidx hn,List.getElem?_map,g2 n r hn,ho,Option.map_some]
      have fwd : ∀ i : Id,i.1 ∈ order → C'.ρ (liftF f i) = (C.ρ i).map (Obj.ren (liftF f)) ∧ C'.μ (liftF f i) = C.μ i:=by
       intro i hi
       obtain ⟨n,hn⟩:=List.getElem?_of_mem hi
       obtain ⟨o,ho,ho'⟩:=look1 i.1 hi
       refine ⟨?_,?_⟩
       ·simp only [C',flat,liftF,ho',h.ρ,ho]
        exact flatR_ren _ _ _ _ _
       ·simp only [C',liftF,hidx hn,hn,Option.getD_some]
      have back : ∀ j o,C'.ρ j = some o → ∃ (i : Id) (o1 : Obj),i.1 ∈ order ∧ liftF f i = j ∧ C.ρ i = some o1 ∧ o = o1.ren (liftF f) ∧ C'.μ j = C.μ i:=by
       intro j o ho
       have ho':=ho
       simp only [C',flat,hgo] at ho
       split at ho
       ·rename_i o' he
        split at he
        ·rename_i hj
         obtain ⟨r,hr,hrj⟩:=List.mem_map.1 hj
         have hji : liftF f (r,j.2) = j:=by rw [liftF,hrj]
         obtain ⟨q1,q2⟩:=fwd (r,j.2) hr
         rw [hji] at q1 q2
         rw [ho'] at q1
         obtain ⟨o1,h1,h2⟩:=zga7 q1.symm
         exact ⟨_,o1,hr,hji,h1,h2.symm,q2⟩
        ·cases he
       ·cases ho
      have hids : ∀ i : Id,i.1 ∈ order → ∀ o1,C.ρ i = some o1 → ∀ x ∈ o1.ids,x.1 ∈ order:=by
       intro i hi o1 ho1 x hx
       obtain ⟨o,h2,h3⟩:=r4 _ hi
       rw [h.ρ] at ho1
       simp only [flat,h2] at ho1
       rcases flatR_ids ho1 x hx with h | h
       ·exact h3 _ h
       ·rw [h]; exact hi
      have hext : Ext (liftF f) (fun i => i.1 ∈ order) C C':=by
       refine ⟨fun _ _ _ h => h,fun id L hid hb => ?_,fun id A hid ha => ⟨A,?_,Nat.le_refl _,fun _ => ⟨rfl,rfl,Nat.le_refl _⟩⟩,fun id b hid hb => ?_⟩
       ·obtain ⟨q1,q2⟩:=fwd id hid
        rw [(zke7 q1 q2).1]; exact hb
       ·obtain ⟨q1,q2⟩:=fwd id hid
        rw [(zke7 q1 q2).2.1]; exact ha
       ·obtain ⟨q1,q2⟩:=fwd id hid
        rw [(zke7 q1 q2).2.2]; exact hb
      refine ⟨C',rfl,rfl,?_,⟨fun t => ?_,h.env.glob⟩,h.size,?_,h.defers,h.ds,h.le⟩
      ·refine ⟨fun j o ho => ?_,fun j j' o o' ho ho' hw hw' hne => ?_,fun j o ho hw => ?_,fun j j' x x' hx hx' hne => ?_,fun j x hx => ?_,h.inv.kept,h.inv.Fw,h.inv.Fsub,h.inv.Fnew⟩
       ·obtain ⟨i,o1,b1,b2,b3,b4,b5⟩:=back j o ho
        rw [b4,b5]
        exact (h.inv.objs i o1 b3).ren hext rfl rfl (hids i b1 o1 b3)
       ·obtain ⟨i,o1,b1,b2,b3,b4,b5⟩:=back j o ho
        obtain ⟨i',o1',b1',b2',b3',b4',b5'⟩:=back j' o' ho'
        rw [b5,b5']
        rw [b4,own_ren] at hw
        rw [b4',own_ren] at hw'
        exact h.inv.disj i i' o1 o1' b3 b3' hw hw' (fun e => hne (by rw [← b2,← b2',e]))
       ·obtain ⟨i,o1,b1,b2,b3,b4,b5⟩:=back j o ho
        rw [b5]
        rw [b4,own_ren] at hw
        exact h.inv.own i o1 b3 hw
       ·obtain ⟨i,o1,b1,b2,b3,b4,b5⟩:=back j _ hx
        obtain ⟨i',o1',b1',b2',b3',b4',b5'⟩:=back j' _ hx'
        rw [b5,b5']
        obtain ⟨y,rfl⟩:=zne7 b4.symm
        obtain ⟨y',rfl⟩:=zne7 b4'.symm
        exact h.inv.bdisj i i' y y' b3 b3' (fun e => hne (by rw [← b2,← b2',e]))
       ·obtain ⟨i,o1,b1,b2,b3,b4,b5⟩:=back j _ hx
        rw [b5]
        obtain ⟨y,rfl⟩:=zne7 b4.symm
        exact h.inv.bown i y b3
      ·have hm : ∀ i ∈ (gE s.env t).ids,i.1 ∈ order:=by
        intro i hi
        refine r3 i.1 (List.mem_append.2 (.inr ?_))
        rcases gE_mem (env:=s.env) (t:=t) with e | ⟨p,h1,h2⟩
        ·rw [e] at hi; simp [AVal.ids] at hi
        ·obtain ⟨k,hk⟩:=List.getElem?_of_mem (List.mem_map_of_mem (f:=fun x : Nat × AVal => x.2) h1)
         exact List.mem_map.2 ⟨i,idsL_get hk i (by rw [h2]; exact hi),rfl⟩
       have:=RepA.ext hext (gE s.env t) _ hm (h.env.env t)
       have e:=gE_map (AVal.tren f) rfl s.env t
       simp only [e]
       exact this
      ·have hin : ∀ (id : Id) o,id.1.1 = 0 → C.ρ id = some o → id.1 ∈ order ∧ liftF f id = id:=by
        intro id o h0 ho
        have hmem : id.1 ∈ order:=by
         refine r3 id.1 (List.mem_append.2 (.inl ?_))
         rw [h.ρ] at ho
         simp only [flat] at ho
         split at ho
         ·rename_i o' he
          rw [List.mem_filter]
          exact ⟨List.mem_map_of_mem (f:=fun x : RId × TObj => x.1) (gT_mem he),by simpa using h0⟩
         ·cases ho
        refine ⟨hmem,?_⟩
        have:=List.all_eq_true.1 hfix id.1 hmem
        have : f id.1 = id.1:=by simpa [h0] using this
        rw [liftF,this]
       refine ⟨h.ext.F,fun id L hid hb => ?_,fun id A hid ha => ?_,fun id b hid hb => ?_⟩
       rotate_left 2
       ·have h1:=h.ext.blk id b hid hb
        have hex : ∃ o,C.ρ id = some o:=by
         unfold blkAt at h1
         cases e : C.ρ id with
         | none => simp [e] at h1
         | some o => exact ⟨o,rfl⟩
        obtain ⟨o,ho⟩:=hex
        obtain ⟨q1,q2⟩:=hin id o hid ho
        have:=hext.blk id b q1 h1
        rwa [q2] at this
       ·have h1:=h.ext.box id L hid hb
        have hex : ∃ o,C.ρ id = some o:=by
         unfold boxAt at h1
         cases e : C.ρ id with
         | none => simp [e] at h1
         | some o => exact ⟨o,rfl⟩
        obtain ⟨o,ho⟩:=hex
        obtain ⟨q1,q2⟩:=hin id o hid ho
        have:=hext.box id L q1 h1
        rwa [q2] at this
       ·obtain ⟨A',h1,h2,h3⟩:=h.ext.arr id A hid ha
        have hex : ∃ o,C.ρ id = some o:=by
         unfold arrAt at h1
         cases e : C.ρ id with
         | none => simp [e] at h1
         | some o => exact ⟨o,rfl⟩
        obtain ⟨o,ho⟩:=hex
        obtain ⟨q1,q2⟩:=hin id o hid ho
        obtain ⟨A'',h4,h5,h6⟩:=hext.arr id A' q1 h1
        rw [q2] at h4
        refine ⟨A'',h4,Nat.le_trans h2 h5,fun e => ?_⟩
        obtain ⟨a1,a2,a3⟩:=h3 (by omega)
        obtain ⟨b1,b2,b3⟩:=h6 (by omega)
        exact ⟨by rw [b1,a1],by rw [b2,a2],by omega⟩
     ·cases hd
theorem reg_sound (hS : zbe7 P K) {an : Ann} {id : Nat} {ops : Array Oper} {draw : Bool} {r : AReg} (hc : cReg P n an id ops draw = some r) {s s' : St} (h : runReg K r s = some s') {C : Ctx} {a : Act} (hG : Good B C0 C n s a)
  {Q : Exit → Act → World → Prop} (hQ : ∀ a' C',Good B C0 C' n s' a' → Q .normal a' C'.w) : (Code.region id ops draw).wpIn (fR rd) 0 P Q a C.w:=by
 unfold cReg at hc
 split at hc
 ·rename_i ra l hra hl
  unfold runReg at h
  split at h
  ·cases h
  ·rename_i s1 hdr
   split at h
   ·cases h
   ·rename_i s2 lg hrun
    split at h
    ·rename_i hpairs
     simp only [Option.some.injEq] at h
     subst h
     have hG1 : ∃ C',C'.w = C.w ∧ Good B C0 C' n s1 a:=by
      exact (hG.restrict r.live).drop hdr
     obtain ⟨C1,hw1,hG1⟩:=hG1
     rw [← hw1]
     cases draw with
     | false =>
      simp only [Bool.false_eq_true,if_false,Option.some.injEq] at hc
      subst hc
      refine wpIn_region ?_
      rw [List.range_eq_range']
      exact seq_sound hS hl ops.size 0 s1 [] s2 lg C1 a (by omega) (by simpa using hrun) hG1.f fun a' C' hG' => hQ a' C' hG'.good
     | true =>
      simp only [if_true] at hc
      split at hc
      ·rename_i hchk
       simp only [Bool.and_eq_true,Bool.not_eq_true'] at hchk
       obtain ⟨⟨hm,he⟩,hcl⟩:=hchk
       simp only [Option.some.injEq] at hc
       subst hc
       generalize hps : pairsOf ops.toList (l.map (·.1)) (befs ops.toList []) ops.size = ps at hcl hrun hpairs
       obtain ⟨hlen,hget⟩:=cOpers_get hl
       obtain ⟨alen,aget⟩:=aosOf_get (ps:=ps) (i:=0) hlen
       obtain ⟨outs,lgs,r1,r2,r3,r4,r5,r6⟩:=runOps_spec _ _ _ _ _ _ hrun
       simp only [List.nil_append] at r2
       subst r2
       have aoAt : ∀ i o,ops[i]? = some o → ∃ k gd,l[i]? = some (k,gd) ∧ (aosOf ps 0 ops.toList l)[i]? = some (⟨o.dst,k,gd,ps.any fun p => p.1 == i || p.2 == i⟩ : AO) ∧ cOper P n ((annOf an id).elim [] (·.marks)) ops.toList i o = some (k,gd):=by
        intro i o ho
        have ho' : ops.toList[i]? = some o:=by simpa using ho
        obtain ⟨k,gd,h1,h2⟩:=hget i o ho'
        have:=aget i o k gd ho' h1
        rw [Nat.zero_add] at this h2
        exact ⟨k,gd,h1,this,h2⟩
       have r5':=r5
       have r6':=r6
       rw [← slimAll_gM _ outs (gT s1.objs)] at r5'
       rw [← zme7 outs (gT s1.objs)] at r6'
       have H : Drawn K P n ((annOf an id).elim [] (·.marks)) ops (aosOf ps 0 ops.toList l) (zfd7 (gT s1.objs) outs) outs (gE s1.env) (gT s1.objs):=by
        refine ⟨by rw [alen]; simp,fun i o ho => ?_,fun j o ho => ?_,fun j => slimAll_fst _ _ _,fun j T' hT => ?_,fun j x hx => ?_,fun i o ho e hee => ?_,fun i j hij hj => clashes_spec hcl i j hij hj,fun i j hij hj => ?_⟩
        ·obtain ⟨k,gd,_,h2,h3⟩:=aoAt i o ho
         exact ⟨k,gd,_,h2,h3⟩
        ·rw [slimAll_gM,zme7]; exact (r4 j o ho).1
        ·rw [zme7] at hT
         rw [zve7]
         exact slim_upd hT
        ·rw [slimAll_keys] at hx
         obtain ⟨u,h1,h2⟩:=List.mem_map.1 hx
         exact List.mem_map.2 ⟨u,(List.mem_filter.1 h1).1,h2⟩
        ·have:=edgesOk_spec he i o (by simpa using ho) e hee
         omega
        ·have hio : ops[i]? = some (ops[i]'(by omega)):=by simp
         have hjo : ops[j]? = some ops[j]:=by simp [hj]
         obtain ⟨k1,g1,a1,a2,a3⟩:=aoAt i _ hio
         obtain ⟨k2,g2,b1,b2,b3⟩:=aoAt j _ hjo
         rcases pairsOf_spec (ops:=ops.toList) (ks:=l.map (·.1)) (bs:=befs ops.toList []) i j hij hj with h | h | h
         ·exact .inl h
         ·right
          rw [hps] at h
          intro a b ha hb
          right
          have hpo:=(List.all_eq_true.1 hpairs) (i,j) h
          have la:=(r4 i a ha).2 (by
           rw [a2] at ha
           cases ha
           exact List.any_eq_true.2 ⟨(i,j),h,by simp⟩)
          have lb:=(r4 j b hb).2 (by
           rw [b2] at hb
           cases hb
           exact List.any_eq_true.2 ⟨(i,j),h,by simp⟩)
          rw [Nat.zero_add] at la lb
          simp only [pairOk,la,lb] at hpo
          simp only [slimAll_gM,zme7,slimAll_keys]
          obtain ⟨⟨⟨p1,p2⟩,p3⟩,p4⟩:=pairK_apart (fun x hx => chgOf_sub hx) (fun x hx => chgOf_sub hx) hpo
          refine ⟨fun x hx hxk => ?_,fun x hx hxk => ?_⟩
          ·rcases hx with hx | hx
           ·have:=meets_mem hx hxk
            simp [this] at p3
           ·have:=meets_mem hx hxk
            unfold zsc7 at hx
            simp [this] at p4
          ·rcases hx with hx | hx
           ·have:=meets_mem hxk hx
            simp [this] at p1
           ·have:=meets_mem hxk hx
            simp [this] at p2
         ·right
          intro a b ha hb
          left
          rw [a2] at ha
          rw [b2] at hb
          cases ha
          cases hb
          exact h k1 k2 (by simp [a1]) (by simp [b1])
       refine wpIn_region_any hm ?_
       have hG2 : GoodF B C0 { C1 with w:=C1.w.drew } n (gE s1.env) (gT s1.objs) a:=by
        obtain ⟨hi,hg⟩:=hG1.inv.drew
        exact ⟨hG1.ρ,hi,⟨fun t => (hG1.env.env t).grow hg,hG1.env.glob.mono hg.F⟩,hG1.size,hG1.ext.thenGrow hg,hG1.defers,hG1.ds,hG1.le⟩
       have e0 : ∀ N,gM (aosOf ps 0 ops.toList l) (zfd7 (gT s1.objs) outs) (fun i => (Array.replicate ops.size false).getD i false) (gE s1.env) N = gE s1.env:=by
        intro N
        induction N with
        | zero => rfl
        | succ N ih =>
         funext t
         have hf : (Array.replicate ops.size false).getD N false = false:=by
          simp only [Array.getD_eq_getD_getElem?,Array.getElem?_replicate]
          split <;> rfl
         simp only [gM,hf,Bool.false_eq_true,false_and,if_false,ih]
       have e1 : ∀ N,rM (zfd7 (gT s1.objs) outs) (fun i => (Array.replicate ops.size false).getD i false) (gT s1.objs) N = gT s1.objs:=by
        intro N
        induction N with
        | zero => rfl
        | succ N ih =>
         have hf : (Array.replicate ops.size false).getD N false = false:=by
          simp only [Array.getD_eq_getD_getElem?,Array.getElem?_replicate]
          split <;> rfl
         simp only [rM,hf,Bool.false_eq_true,if_false,ih]
       have ea : (aosOf ps 0 ops.toList l).length = ops.size:=by rw [alen]; simp
       refine any_sound hS H (Q:=Q) (fun a' C' hG' => hQ a' C' ?_) ops.size (Array.replicate ops.size false) a { C1 with w:=C1.w.drew } (by simp) ?_ (by rw [e0,e1]; exact hG2) (Nat.le_trans List.countP_le_length (by simp))
       ·rw [ea] at r5' r6'
        rw [← r5',← r6'] at hG'
        exact hG'.good
       ·intro i o ho hf
        exfalso
        simp only [Array.getD_eq_getD_getElem?,Array.getElem?_replicate] at hf
        split at hf <;> cases hf
      ·cases hc
    ·cases h
 ·cases hc
def toExit : AEx → Exit
 | .normal => .normal
 | .exit id => .exit id
 | .ret => .ret
structure BLe (B B' : Base) : Prop where
 imp : ∀ C,Inv B' C → Inv B C
theorem BLe.refl (B : Base) : BLe B B:=⟨fun _ h => h⟩
theorem BLe.trans {A B C : Base} (h : BLe A B) (h' : BLe B C) : BLe A C:=⟨fun X hx => h.imp X (h'.imp X hx)⟩
theorem Inv.rebase {C : Ctx} (hI : Inv B C) (ds : List Nat) : Inv ⟨C.w,C.F,OwnSet C,OwnBlk C,ds⟩ C ∧ BLe B ⟨C.w,C.F,OwnSet C,OwnBlk C,ds⟩:=by
 have hM : ∀ b,OwnBlk C b → nc C.w b:=fun b ⟨id,x,h1,h2⟩ => by rw [← h2]; exact (hI.objs id _ h1).2.nc.2
 refine ⟨⟨hI.objs,hI.disj,fun id o ho how j hj => .inl ⟨id,o,ho,how,j,hj,rfl,rfl⟩,hI.bdisj,fun id x hx => .inl ⟨id,x,hx,rfl⟩,KeptB.reflM hM,hI.Fw,fun _ _ _ h => h,fun _ _ _ h => .inl h⟩,⟨fun X hX => ?_⟩⟩
 have own1 : ∀ b x,OwnSet C b x → B.O b x ∨ B.w.heap.size ≤ b:=by
  rintro b x ⟨id,o,h1,h2,j,hj,rfl,rfl⟩
  exact hI.own id o h1 h2 j hj
 have own2 : ∀ b,OwnBlk C b → B.M b ∨ B.w.heap.size ≤ b:=by
  rintro b ⟨id,x,h1,rfl⟩
  exact hI.bown id x h1
 have hsz : B.w.heap.size ≤ C.w.heap.size:=hI.kept.size
 refine ⟨hX.objs,hX.disj,fun id o ho how j hj => ?_,hX.bdisj,fun id x hx => ?_,?_,hX.Fw,fun b o v hv => hX.Fsub _ _ _ (hI.Fsub _ _ _ hv),fun b o v hv => ?_⟩
 ·rcases hX.own id o ho how j hj with h | h
  ·exact own1 _ _ h
  ·exact .inr (Nat.le_trans hsz h)
 ·rcases hX.bown id x hx with h | h
  ·exact own2 _ h
  ·exact .inr (Nat.le_trans hsz h)
 ·refine hI.kept.trans hX.kept (fun _ _ _ h => h) (fun b o hb h => ?_) (fun _ _ h => h) (fun b hb h => ?_) (fun b hb h => (hI.kept.blk b hb h).1)
  ·rcases own1 b o h with h1 | h1
   ·exact h1
   ·omega
  ·rcases own2 b h with h1 | h1
   ·exact h1
   ·omega
 ·rcases hX.Fnew b o v hv with h | h | h
  ·exact hI.Fnew _ _ _ h
  ·exact .inr (own1 _ _ h)
  ·exact .inr (.inr (Nat.le_trans hsz h))
theorem flat_put {T : TLook} {r : RId} {o : Obj} (h : T r = none ∨ ∃ o',T r = some (.plain o')) : flat (fun j => if r = j then some (.plain o) else T j) = updL (flat T) [((r,0,0),o)]:=by
 funext id
 obtain ⟨r',p,q⟩:=id
 simp only [updL,flat]
 by_cases e : r = r'
 ·subst e
  simp only [if_true,flatR]
  by_cases hp : p = 0 ∧ q = 0
  ·obtain ⟨rfl,rfl⟩:=hp
   simp
  ·have : ¬ ((r,0,0) : Id) = (r,p,q):=fun x => hp (by simp only [Prod.mk.injEq,true_and] at x; exact ⟨x.1.symm,x.2.symm⟩)
   rw [if_neg hp,if_neg this]
   rcases h with h | ⟨o',h⟩
   ·rw [h]
   ·rw [h]; simp only [flatR,if_neg hp]
 ·have : ¬ ((r,0,0) : Id) = (r',p,q):=fun x => e (by simp only [Prod.mk.injEq] at x; exact x.1)
  rw [if_neg this,if_neg e]
theorem OwnBlk.not_deferred {C : Ctx} (hI : Inv B C) {D : Nat} {ds : Option (List Deferred)} (h : C.w.heap[D]? = some (.deferred ds)) : ¬ OwnBlk C D:=by
 rintro ⟨id,x,h1,rfl⟩
 have:=(hI.objs id _ h1).2
 cases x with
 | map es => obtain ⟨_,_,e,_⟩:=this; rw [h] at e; cases e
 | loop k st env => obtain ⟨_,e,_⟩:=this; rw [h] at e; cases e
 | dead => obtain ⟨_,e⟩:=this; rw [h] at e; cases e
theorem zud7 {w : World} {D : Nat} {ds : Option (List Deferred)} (h : w.heap[D]? = some (.deferred ds)) : nc w D:=fun c t fr e => by rw [h] at e; cases e
theorem rf_sound (hS : zbe7 P K) {C : Ctx} {s : St} {a : Act} (hG : Good B C0 C n s a) {g : Operand} {ps : Array Tmp} {avs bd : Code} {ax : AX} (hx : cX g = some ax) {k site : Nat} {caps : List Nat} (hlp : Glob.lps k = some (n,ps,avs,bd))
  {f : FuncId} {vs : List AVal} (hf : evX (gE s.env) ax = .fn f vs) (hne' : ¬ (f = YID ∨ BIGF ≤ f)) (hlid : gT s.objs (site + 1,0) = none) {v : AVal} {us : List (RId × TObj)} {objs : zgb7} (hobjs : objs = pT s.objs (site + 1,0) (.plain (.blk (.loop k .ready (caps.map fun t => (t,gE s.env t))))))
  (hcall : callE K (site + 1) f ((.bref true ((site + 1,0),0,0),true) :: vs.map fun v => (v,true)) false (gT objs) = some (v,us))
  {k' : Nat} {st : LSt} {env' : Env} (hob : gT (pTs objs us) (site + 1,0) = some (.plain (.blk (.loop k' st env')))) {y : AEx} (hy : st.out = some y)
  {Q : Exit → Act → World → Prop} (hQ : ∀ a' C' B',BLe B B' → Good B' C0 C' n ⟨s.env,pT (pTs objs us) (site + 1,0) (.plain (.blk .dead))⟩ a' → Q (toExit y) a' C'.w) : (Code.rangeFunc g ps avs bd).wpIn (fR none) 0 P Q a C.w:=by
 have hne : f ≠ YID:=fun e => hne' (.inl e)
 have hnb : ¬ BIGF ≤ f:=fun e => hne' (.inr e)
 refine wpIn_rangeFunc fun fn _ => ?_
 obtain ⟨rc,hrc⟩ : ∃ rc : Go.Loop,rc = { state:=.ready,pending:=none,fn,tmps:=a.tmps,params:=ps,assign:=avs,body:=bd,defers:=C.w.heap.size }:=⟨_,rfl⟩
 obtain ⟨i1,g1⟩:=hG.inv.plain (C':={ C with w:=C.w.alloc (.deferred (some [])) }) (Kept.allocN _ _ _ (by simp)) (fun _ _ _ h => h) (fun _ _ _ h => .inl h) (fun b o v hv e => by simp only at hv; rw [e] at hv; cases hv) rfl rfl
 have hnone : ({ C with w:=C.w.alloc (.deferred (some [])) } : Ctx).ρ ((site + 1,0),0,0) = none:=by
  simp only [hG.ρ,flat,hlid]
 obtain ⟨i2,g2,e2⟩:=i1.newBlk hnone (.loop rc) (by simp) (.loop k .ready (caps.map fun t => (t,gE s.env t))) (fun C' e1 e2 hg => by
  refine ⟨rc,by rw [e1]; exact alloc_new _ _,by rw [hrc]; simp only [hG.size]; exact hlp,by rw [hrc]; exact ⟨rfl,rfl⟩,fun p hp => ?_⟩
  obtain ⟨t,_,rfl⟩:=List.mem_map.1 hp
  rw [hrc]
  exact ((hG.env.env t).grow g1).grow hg)
 generalize hC2 : ({ w:=(C.w.alloc (.deferred (some []))).alloc (.loop rc),F:=C.F,μ:=fun i => if i = ((site + 1,0),0,0) then ⟨(C.w.alloc (.deferred (some []))).heap.size,0,0⟩ else C.μ i,ρ:=fun i => if i = ((site + 1,0),0,0) then some (.blk (.loop k .ready (caps.map fun t => (t,gE s.env t)))) else C.ρ i } : Ctx) = C2 at i2 g2 e2
 have hw2 : C2.w = (C.w.alloc (.deferred (some []))).alloc (.loop rc):=by rw [← hC2]
 have hρ2 : C2.ρ = flat (gT objs):=by
  rw [e2,hobjs]
  simp only [hG.ρ]
  rw [← flat_put (.inl hlid)]
  congr 1
  funext j
  rw [gT_pT]
 have hat2 : blkAt C2 ((site + 1,0),0,0) = some (C.w.heap.size + 1):=by
  rw [← hC2]; simp [blkAt]
 have g12:=g1.trans g2
 have hgl2 : GlobOK C2.F:=hG.env.glob.mono g12.F
 obtain ⟨i2',ble2⟩:=i2.rebase (B:=B) []
 have hgv:=zia7 hG.env hx
 rw [hf] at hgv
 simp only [RepA] at hgv
 obtain ⟨cs,v1,v2⟩:=hgv
 rw [if_neg hnb] at v1
 obtain ⟨Cc,vs',os,rv,os',c1,c2,c3,c4,c5,c6,c7⟩:=callE_core (vals:=.func (.yield (C.w.heap.size + 1)) #[] #[] :: cs.toList) i2' hρ2 hgl2 (by
  simp only [List.map_cons,List.map_map,RepL]
  refine ⟨_,_,rfl,?_,?_⟩
  ·simp only [RepA,if_true]
   exact ⟨_,hat2,rfl⟩
  ·have : (Prod.fst ∘ fun v : AVal => (v,true)) = id:=rfl
   rw [this,List.map_id]
   exact v2.grow g12) hcall
 have hc : zkb7 P f = true ∧ CallOK P f vs' os rv os':=by
  rcases hS _ _ _ _ _ c6 with ⟨_,q⟩ | ⟨q,_⟩
  ·exact q
  ·exact absurd q hne
 have hD1 : C2.w.heap[C.w.heap.size]? = some (.deferred (some [])):=by
  rw [hw2]
  have : ((C.w.alloc (.deferred (some []))).heap.push (.loop rc))[C.w.heap.size]? = (C.w.alloc (.deferred (some []))).heap[C.w.heap.size]?:=by
   rw [Array.getElem?_push,if_neg (by simp)]
  exact this.trans (alloc_new _ _)
 refine ⟨C.w.heap.size + 1,[{ target:=.collected C.w.heap.size,args:=#[] }],C2.w,{ target:=.fn (.func f) cs,args:=#[.func (.yield (C.w.heap.size + 1)) #[] #[]] },C2.w,f,
  #[.func (.yield (C.w.heap.size + 1)) #[] #[]] ++ cs,C2.w,?_,?_,fun _ _ => trivial,?_,(fun h => by cases h),?_⟩
 ·rw [hw2,hrc]; exact run_enterLoop_outer _ _ _ _ _
 ·simp only [resolve,v1]
  simp [go_sem]
 ·have:=run_enter hc.1 C2.w (args:=#[.func (.yield (C.w.heap.size + 1)) #[] #[]] ++ cs)
  simp [invoke,go_sem,this]
 ·have hcl:=hc.2 Cc (#[.func (.yield (C.w.heap.size + 1)) #[] #[]] ++ cs) c2 c3 c4 (by simpa using c5)
  rw [c1] at hcl
  have hcl' : CallsIn (fR none) (0 - 1) P f (#[.func (.yield (C.w.heap.size + 1)) #[] #[]] ++ cs) C2.w (PostOK Cc os rv os'):=callsIn_wide.2 hcl
  refine hcl'.mono fun e w3 hp => ?_
  obtain ⟨val,rfl,C3,k1,k2,k3,k4,k5⟩:=c7 e w3 hp
  subst k1
  have hC3 : C3.ρ ((site + 1,0),0,0) = some (.blk (.loop k' st env')):=by
   rw [k2,← gT_pTs]
   simp only [flat,hob,flatR,and_self,if_true]
  have hat3:=k4.blk _ _ trivial hat2
  have hb3 : (C3.μ ((site + 1,0),0,0)).b = C.w.heap.size + 1:=by simpa [blkAt,hC3] using hat3
  obtain ⟨_,r3,l1,l2,l3,l4⟩:=k3.objs _ _ hC3
  rw [hb3] at l1
  have hnb : r3.state ≠ .busy:=by
   cases st with
   | ready => rw [l3.1]; simp
   | busy => simp [LSt.out] at hy
   | done e => rw [l3.1]; simp
  have hend:=run_endLoop (P:=P) l1 hnb
  obtain ⟨i4,g4⟩:=k3.turn hC3 (.loop { r3 with state:=.exhausted }) (by simp) .dead (fun C' e1 e2 hg => by
   rw [hb3] at e1 ⊢
   refine ⟨{ r3 with state:=.exhausted },?_⟩
   rw [e1]
   have:=(Array.getElem?_eq_some_iff.1 l1).1
   simp [this])
  rw [hb3] at i4 g4
  generalize hC4 : ({ C3 with w:={ C3.w with heap:=C3.w.heap.setIfInBounds (C.w.heap.size + 1) (.loop { r3 with state:=.exhausted }) },ρ:=updL C3.ρ [(((site + 1,0),0,0),.blk .dead)] } : Ctx) = C4 at i4 g4
  have hw4 : C4.w = C3.w.putObj (C.w.heap.size + 1) (.loop { r3 with state:=.exhausted }):=by rw [← hC4]; rfl
  have hρ4 : C4.ρ = flat (gT (pT (pTs objs us) (site + 1,0) (.plain (.blk .dead)))):=by
   have h1 : C4.ρ = updL C3.ρ [(((site + 1,0),0,0),.blk .dead)]:=by rw [← hC4]
   rw [h1,k2,← gT_pTs,← flat_put (.inr ⟨_,hob⟩)]
   congr 1
   funext j
   rw [gT_pT]
  obtain ⟨i5,ble5⟩:=i4.rebase (C.w.heap.size :: B.ds)
  have hgr : Grow C C4:=(g12.trans k4).trans g4
  have hD3 : C3.w.heap[C.w.heap.size]? = some (.deferred (some [])):=k3.kept.heap hD1 (zud7 hD1) (OwnBlk.not_deferred i2 hD1)
  have hD4 : C4.w.heap[C.w.heap.size]? = some (.deferred (some [])):=by
   rw [hw4,World.putObj_heap_other (by omega)]; exact hD3
  have hdsB : ∀ D ∈ B.ds,C4.w.heap[D]? = some (.deferred (some [])) ∧ C0.w.heap.size ≤ D:=by
   intro D hD
   obtain ⟨q1,q2,q3⟩:=hG.ds D hD
   have hI4:=ble2.imp _ i4
   exact ⟨hI4.kept.heap q1 (zud7 q1) q2,q3⟩
  have hC0 : C0.w.heap.size ≤ C.w.heap.size:=Nat.le_trans hG.le.1 hG.inv.kept.size
  have hGood : Good ⟨C4.w,C4.F,OwnSet C4,OwnBlk C4,C.w.heap.size :: B.ds⟩ C0 C4 n ⟨s.env,pT (pTs objs us) (site + 1,0) (.plain (.blk .dead))⟩ { a with defers:=[{ target:=.collected C.w.heap.size,args:=#[] }] ++ a.defers }:=by
   refine ⟨hρ4,i5,⟨fun t => (hG.env.env t).grow hgr,hG.env.glob.mono hgr.F⟩,hG.size,hG.ext.thenGrow hgr,?_,fun D hD => ?_,Nat.le_trans hC0 ?_,List.nodup_cons.2 ⟨fun hm => ?_,hG.le.2⟩⟩
   ·simp only [marks,List.map_cons,List.singleton_append,hG.defers]
   ·simp only [List.mem_cons] at hD
    rcases hD with rfl | hD
    ·exact ⟨hD4,OwnBlk.not_deferred i4 hD4,hC0⟩
    ·obtain ⟨q1,q2⟩:=hdsB D hD
     exact ⟨q1,OwnBlk.not_deferred i4 q1,q2⟩
   ·have:=(Array.getElem?_eq_some_iff.1 hD4).1
    show C.w.heap.size ≤ C4.w.heap.size
    omega
   ·have h1:=(Array.getElem?_eq_some_iff.1 (hG.ds _ hm).1).1
    have h2:=hG.inv.kept.size
    omega
  have hfin:=hQ _ C4 _ (ble2.trans ble5) hGood
  refine ⟨r3.pending,_,hend,?_⟩
  rw [hw4] at hfin
  generalize C3.w.putObj (C.w.heap.size + 1) (.loop { r3 with state:=.exhausted }) = W at hfin ⊢
  cases st with
  | ready =>
   simp only [LSt.out,Option.some.injEq] at hy
   subst hy
   rw [l3.2]
   exact hfin
  | busy => simp [LSt.out] at hy
  | done e =>
   simp only [LSt.out,Option.some.injEq] at hy
   subst hy
   rw [l3.2.1]
   cases e with
   | normal => exact absurd rfl l3.2.2
   | ret => exact wpIn_ret hfin
   | exit id => exact wpIn_exit hfin
theorem zcd7 {b : Frame} {a : Act} {k : List Item} {cs : List Frame} {w : World} {c : Code} : step P (lone (b.atR a (.code (.scope c) :: k)) cs w) = .next (lone (b.atR a (.code c :: .inScope c :: k)) cs w) :=
 step_lone_go (by simp [stepG,stepG.exec,Frame.atR])
theorem stepR_inScope {b : Frame} {a : Act} {k : List Item} {cs : List Frame} {w : World} {c : Code} : step P (lone (b.atR a (.inScope c :: k)) cs w) = .next (lone (b.atR a k) cs w) :=
 step_lone_go (by simp [stepG,stepG.exec,Frame.atR])
theorem zsf7 {F : Fence} {n : Nat} {c : Code} {Q : Exit → Act → World → Prop} {a : Act} {w : World} (h : c.wpIn F n P (Exit.noGoto Q) a w) : (Code.scope c).wpIn F n P Q a w:=by
 intro b k cs hro hb hr
 have h0 : (lone (b.atR a (.code (.scope c) :: k)) cs w).fenced P F:=fenced_calm hb hr rfl
 obtain ⟨e,a₁,w₁,hq,harr⟩:=h b (.inScope c :: k) cs hro hb hr
 cases e with
 | normal => exact ⟨.normal,a₁,w₁,hq,.head h0 zcd7 (StepsIn.trans harr (.one (fenced_calm hb hr rfl) stepR_inScope))⟩
 | exit id =>
  have hx : exitTo id (.inScope c :: k) = exitTo id k:=by simp [exitTo]
  exact ⟨.exit id,a₁,w₁,hq,fun k' hk => .head h0 zcd7 (harr.1 k' (by rw [hx]; exact hk)),fun hr' hk => let ⟨k₁,h1,h2⟩:=harr.2 hr' (by rw [hx]; exact hk); ⟨k₁,h1,.head h0 zcd7 h2⟩⟩
 | goto l => exact hq.elim
 | ret => exact ⟨_,a₁,w₁,hq,.of_steps (.one h0 zcd7) harr⟩
 | panic ch => exact ⟨_,a₁,w₁,hq,.of_steps (.one h0 zcd7) harr⟩
 | outgrown => exact ⟨_,a₁,w₁,hq,.of_steps (.one h0 zcd7) harr⟩
theorem code_sound (hS : zbe7 P K) {an : Ann} : ∀ {c : Code} {ac : AC},cCode P n an c = some ac → (rd = none ∨ rfs c = []) → (∀ st ∈ rfs c,Glob.lps (tagOf an) = some (n,st)) → ∀ {s s' : St} {x : AEx},exec K ac s = some (x,s') → ∀ {B : Base} {C : Ctx} {a : Act},Good B C0 C n s a →
  ∀ {Q : Exit → Act → World → Prop},(∀ a' C' B',BLe B B' → Good B' C0 C' n s' a' → Q (toExit x) a' C'.w) → c.wpIn (fR rd) 0 P Q a C.w:=by
 intro c
 induction c with
 | skip =>
  intro ac hc hrd hl s s' x h B C a hG Q hQ
  simp only [cCode,Option.some.injEq] at hc
  subst hc
  simp only [exec,Option.some.injEq,Prod.mk.injEq] at h
  obtain ⟨rfl,rfl⟩:=h
  exact wpIn_skip (hQ a C B (.refl B) hG)
 | region id ops draw =>
  intro ac hc hrd hl s s' x h B C a hG Q hQ
  simp only [cCode] at hc
  cases hr : cReg P n an id ops draw with
  | none => rw [hr] at hc; cases hc
  | some r =>
   rw [hr] at hc
   simp only [Option.map_some,Option.some.injEq] at hc
   subst hc
   simp only [exec] at h
   split at h
   ·rename_i s1 h1
    simp only [Option.some.injEq,Prod.mk.injEq] at h
    obtain ⟨rfl,rfl⟩:=h
    exact reg_sound hS hr h1 hG fun a' C' hG' => hQ a' C' B (.refl B) hG'
   ·cases h
 | seq c1 c2 ih1 ih2 =>
  intro ac hc hrd hl s s' x h B C a hG Q hQ
  simp only [rfs,List.append_eq_nil_iff] at hrd
  simp only [rfs,List.mem_append] at hl
  have r1 : rd = none ∨ rfs c1 = []:=hrd.imp (fun h => h) (·.1)
  have r2 : rd = none ∨ rfs c2 = []:=hrd.imp (fun h => h) (·.2)
  simp only [cCode] at hc
  split at hc
  ·rename_i a1 a2 h1 h2
   simp only [Option.some.injEq] at hc
   subst hc
   simp only [exec] at h
   refine wpIn_seq ?_
   split at h
   ·rename_i s1 hs1
    refine ih1 h1 r1 (fun st hs => hl st (.inl hs)) hs1 hG fun a' C' B' hB hG' => ?_
    exact ih2 h2 r2 (fun st hs => hl st (.inr hs)) h hG' fun a2 C2 B2 hB2 hG2 => hQ a2 C2 B2 (hB.trans hB2) hG2
   ·rename_i hne
    refine ih1 h1 r1 (fun st hs => hl st (.inl hs)) h hG fun a' C' B' hB hG' => ?_
    cases x with
    | normal => exact absurd h (hne s')
    | exit id => exact hQ a' C' B' hB hG'
    | ret => exact hQ a' C' B' hB hG'
  ·cases hc
 | cond cx c1 c2 ih1 ih2 =>
  intro ac hc hrd hl s s' x h B C a hG Q hQ
  simp only [rfs,List.append_eq_nil_iff] at hrd
  simp only [rfs,List.mem_append] at hl
  have r1 : rd = none ∨ rfs c1 = []:=hrd.imp (fun h => h) (·.1)
  have r2 : rd = none ∨ rfs c2 = []:=hrd.imp (fun h => h) (·.2)
  simp only [cCode] at hc
  split at hc
  ·rename_i ax a1 a2 hx h1 h2
   simp only [Option.some.injEq] at hc
   subst hc
   simp only [exec] at h
   split at h
   ·rename_i t ht
    have hr:=zia7 hG.env hx
    rw [ht] at hr
    refine wpIn_cond (rep_bool hr) ?_
    cases t with
    | true => exact ih1 h1 r1 (fun st hs => hl st (.inl hs)) h hG hQ
    | false => exact ih2 h2 r2 (fun st hs => hl st (.inr hs)) h hG hQ
   ·cases h
  ·cases hc
 | block id c ih =>
  intro ac hc hrd hl s s' x h B C a hG Q hQ
  simp only [cCode] at hc
  cases hr : cCode P n an c with
  | none => rw [hr] at hc; cases hc
  | some r =>
   rw [hr] at hc
   simp only [Option.map_some,Option.some.injEq] at hc
   subst hc
   simp only [exec] at h
   refine wpIn_block ?_
   split at h
   ·rename_i id' s1 h1
    refine ih hr hrd hl h1 hG fun a' C' B' hB hG' => ?_
    simp only [toExit,Exit.inBlock]
    split at h
    ·rename_i e
     simp only [Option.some.injEq,Prod.mk.injEq] at h
     obtain ⟨rfl,rfl⟩:=h
     rw [if_pos e]
     exact hQ a' C' B' hB hG'
    ·rename_i e
     simp only [Option.some.injEq,Prod.mk.injEq] at h
     obtain ⟨rfl,rfl⟩:=h
     rw [if_neg e]
     exact hQ a' C' B' hB hG'
   ·rename_i hne
    refine ih hr hrd hl h hG fun a' C' B' hB hG' => ?_
    cases x with
    | normal => exact hQ a' C' B' hB hG'
    | exit id' => exact absurd h (hne id' s')
    | ret => exact hQ a' C' B' hB hG'
 | loop c ih =>
  intro ac hc hrd hl s s' x h B C a hG Q hQ
  simp only [cCode] at hc
  cases hr : cCode P n an c with
  | none => rw [hr] at hc; cases hc
  | some r =>
   rw [hr] at hc
   simp only [Option.map_some,Option.some.injEq] at hc
   subst hc
   simp only [exec,zva7] at h
   split at h
   ·rename_i hex
    simp only [Option.some.injEq] at h
    have hN:=Classical.choose_spec hex
    rw [h] at hN
    obtain ⟨N,hN⟩:=hN
    refine wpIn_loop_rounds N ?_
    clear hex h
    induction N generalizing s C a B with
    | zero => simp [iter] at hN
    | succ N ihN =>
     rw [roundsIn_succ]
     simp only [iter] at hN
     split at hN
     ·cases hN
     ·rename_i s1 h1
      refine ih hr hrd hl h1 hG fun a' C' B' hB hG' => ?_
      exact ihN hG' (fun a2 C2 B2 hB2 hG2 => hQ a2 C2 B2 (hB.trans hB2) hG2) hN
     ·rename_i p hne h1
      simp only [Option.some.injEq] at hN
      subst hN
      refine ih hr hrd hl h1 hG fun a' C' B' hB hG' => ?_
      cases x with
      | normal => exact (hne s' rfl).elim
      | exit id => exact hQ a' C' B' hB hG'
      | ret => exact hQ a' C' B' hB hG'
   ·cases h
 | exit id =>
  intro ac hc hrd hl s s' x h B C a hG Q hQ
  simp only [cCode,Option.some.injEq] at hc
  subst hc
  simp only [exec,Option.some.injEq,Prod.mk.injEq] at h
  obtain ⟨rfl,rfl⟩:=h
  exact wpIn_exit (hQ a C B (.refl B) hG)
 | ret =>
  intro ac hc hrd hl s s' x h B C a hG Q hQ
  simp only [cCode,Option.some.injEq] at hc
  subst hc
  simp only [exec,Option.some.injEq,Prod.mk.injEq] at h
  obtain ⟨rfl,rfl⟩:=h
  exact wpIn_ret (hQ a C B (.refl B) hG)
 | label l =>
  intro ac hc hrd hl s s' x h B C a hG Q hQ
  simp only [cCode,Option.some.injEq] at hc
  subst hc
  simp only [exec,Option.some.injEq,Prod.mk.injEq] at h
  obtain ⟨rfl,rfl⟩:=h
  exact wpIn_label (hQ a C B (.refl B) hG)
 | scope c ih =>
  intro ac hc hrd hl s s' x h B C a hG Q hQ
  simp only [cCode] at hc
  refine zsf7 (ih hc hrd hl h hG fun a' C' B' hB hG' => ?_)
  cases x <;> exact hQ a' C' B' hB hG'
 | rangeFunc g ps avs bd ih1 ih2 =>
  intro ac hc hrd hl s s' x h B C a hG Q hQ
  simp only [cCode] at hc
  split at hc
  ·rename_i rn ax hrn hx
   simp only [Option.some.injEq] at hc
   subst hc
   have hrd' : rd = none:=hrd.resolve_right (by simp [rfs])
   subst hrd'
   have hlp:=hl (ps,avs,bd) (by simp [rfs])
   simp only [exec,rfE] at h
   split at h
   ·rename_i f vs hf
    split at h
    ·cases h
    ·rename_i hne
     split at h
     ·cases h
     ·rename_i hlid
      split at h
      ·cases h
      ·rename_i v us hcall
       split at h
       ·rename_i k' st env' hob
        split at h
        ·rename_i y hy
         simp only [Option.some.injEq,Prod.mk.injEq] at h
         obtain ⟨rfl,rfl⟩:=h
         exact rf_sound hS hG hx hlp hf hne hlid rfl hcall hob hy hQ
        ·cases h
       ·cases h
   ·cases h
  ·cases hc
 | _ => intro ac hc; simp [cCode] at hc
end
end Go.Am

namespace Go.Am
variable [Glob]
theorem collect_front {ρ : TLook} : ∀ (ids : List RId) {n : Nat} {rest done res : List RId},collect ρ n (ids ++ rest) done = some res → ids.Nodup → (∀ i ∈ ids,i ∉ done) → ∃ l,res = done ++ ids ++ l
 | [],n,rest,done,res,h,hn,hd => by
  have : ∀ {n : Nat} {todo done : List RId},collect ρ n todo done = some res → ∃ l,res = done ++ l:=by
   intro n
   induction n with
   | zero => intro todo done h; simp [collect] at h
   | succ n ih =>
    intro todo done h
    cases todo with
    | nil => simp only [collect,Option.some.injEq] at h; exact ⟨[],by simp [h]⟩
    | cons i r =>
     simp only [collect] at h
     split at h
     ·exact ih h
     ·split at h
      ·cases h
      ·obtain ⟨l,hl⟩:=ih h
       exact ⟨i :: l,by simp [hl]⟩
  simpa using this h
 | i :: r,0,rest,done,res,h,hn,hd => by simp [collect] at h
 | i :: r,n + 1,rest,done,res,h,hn,hd => by
  simp only [List.cons_append,collect] at h
  rw [if_neg (hd i (by simp))] at h
  split at h
  ·cases h
  ·rename_i o ho
   rw [List.append_assoc] at h
   rw [List.nodup_cons] at hn
   obtain ⟨l,hl⟩:=collect_front r h hn.2 (fun j hj hm => by
    rcases List.mem_append.1 hm with hm | hm
    ·exact hd j (by simp [hj]) hm
    ·simp at hm; subst hm; exact hn.1 hj)
   exact ⟨l,by simp [hl]⟩
section
variable {P : Program} {B : Base} {C0 : Ctx} {K : Orc} {n : Nat}
def retV : List Value → Value
 | [v] => v
 | vs => .tuple vs.toArray
theorem res_run1 {C : Ctx} {s : St} {a : Act} (hG : Good B C0 C n s a) {x : ResultVar} {ar : AR} {v : AVal} (h : cRes1 P n x = some ar) (hv : resV s ar = some v) :
  ∃ val,(match x with | .tmp t => (pure (a.tmps.getD t undef) : Sem Value) | .cell ad t => do loadVar t (← asAddr (a.tmps.getD ad undef))).run P C.w = .ok val C.w ∧ RepA C v val:=by
 cases x with
 | tmp t =>
  simp only [cRes1] at h
  split at h
  ·simp only [Option.some.injEq] at h
   subst h
   simp only [resV,Option.some.injEq] at hv
   subst hv
   exact ⟨_,rfl,hG.env.env t⟩
  ·cases h
 | cell ad ty =>
  simp only [cRes1] at h
  split at h
  ·rename_i q hq
   split at h
   ·rename_i hc
    simp only [Option.some.injEq] at h
    subst h
    simp only [resV] at hv
    rw [← hG.ρ] at hv
    obtain ⟨b,of,h1,h2,h3⟩:=loadE_rep hG.inv hc.2 hv (hG.env.env ad)
    simp only [h1]
    cases e : q.agg
    ·obtain ⟨u,hu,hr⟩:=h3 e
     refine ⟨u,?_,hr⟩
     simp [asAddr,loadVar,run_isAgg hq,e,hu]
    ·obtain ⟨cs,c1,c2,hr⟩:=h2 e
     refine ⟨_,?_,hr⟩
     have:=run_loadCells_list (P:=P) C.w ⟨b,of,none⟩ cs (addr_cells c2)
     rw [c1] at this
     simp [asAddr,loadVar,run_isAgg hq,e,run_sizeOf hq,this]
   ·cases h
  ·cases h
theorem res_run {C : Ctx} {s : St} {a : Act} (hG : Good B C0 C n s a) : ∀ {rs : List ResultVar} {ars : List AR} {vs : List AVal},cRes P n rs = some ars → resVs s ars = some vs →
  ∃ vals,(rs.mapM fun (x : ResultVar) => (match x with | .tmp t => (pure (a.tmps.getD t undef) : Sem Value) | .cell ad t => do loadVar t (← asAddr (a.tmps.getD ad undef)))).run P C.w = .ok vals C.w ∧ RepL C vs vals
 | [],ars,vs,h,hv => by
  simp only [cRes,Option.some.injEq] at h
  subst h
  simp only [resVs,Option.some.injEq] at hv
  subst hv
  exact ⟨[],rfl,by simp [RepL]⟩
 | x :: r,ars,vs,h,hv => by
  simp only [cRes] at h
  split at h
  ·rename_i ar l h1 h2
   simp only [Option.some.injEq] at h
   subst h
   simp only [resVs] at hv
   split at hv
   ·rename_i v vs' h3 h4
    simp only [Option.some.injEq] at hv
    subst hv
    obtain ⟨val,q1,q2⟩:=res_run1 hG h1 h3
    obtain ⟨vals,q3,q4⟩:=res_run hG h2 h4
    refine ⟨val :: vals,?_,?_⟩
    ·rw [List.mapM_cons]
     simp only [Sem.run_bind,q1,q3,Result.andThen_ok,Sem.run_pure]
    ·simp only [RepL]; exact ⟨val,vals,rfl,q2,q4⟩
   ·cases hv
  ·cases h
theorem results_run {C : Ctx} {s : St} {a : Act} (hG : Good B C0 C n s a) {fn : Func} {ars : List AR} {vs : List AVal} (h : cRes P n fn.results.toList = some ars) (hv : resVs s ars = some vs) :
  ∃ vals,(results fn a.tmps).run P C.w = .ok (retV vals) C.w ∧ RepL C vs vals:=by
 obtain ⟨vals,h1,h2⟩:=res_run hG h hv
 refine ⟨vals,?_,h2⟩
 simp only [results,Array.mapM_eq_mapM_toList,Sem.run_bind,Sem.run_map]
 have e : ∀ (f g : ResultVar → Sem Value),f = g → (fn.results.toList.mapM f).run P C.w = (fn.results.toList.mapM g).run P C.w:=fun f g e => by rw [e]
 rw [e _ (fun (x : ResultVar) => (match x with | .tmp t => (pure (a.tmps.getD t undef) : Sem Value) | .cell ad t => do loadVar t (← asAddr (a.tmps.getD ad undef)))) (by funext x; cases x <;> rfl),h1]
 simp only [Result.andThen_ok,Sem.run_pure]
 match vals with
 | [] => simp [retV]
 | [v] => simp [retV]
 | v :: v' :: r => simp [retV]
theorem resE_ok {C : Ctx} {T : TLook} (hI : Inv B C) (hρ : C.ρ = flat T) {v u : AVal} {keep : Bool} {us : List (RId × TObj)} (h : resE T keep v = some (u,us)) :
  DecOK B C T us fun C1 => ∀ val,RepA C v val → RepA C1 u val:=by
 have stay : u = v → us = [] → DecOK B C T us fun C1 => ∀ val,RepA C v val → RepA C1 u val:=by
  rintro rfl rfl
  exact ⟨C,rfl,hρ,hI,Grow.refl C,fun val hv => hv⟩
 have gen : (decV T v).map (fun p => (AVal.dat p.1,p.2)) = some (u,us) → DecOK B C T us fun C1 => ∀ val,RepA C v val → RepA C1 u val:=by
  intro h
  obtain ⟨⟨d,us'⟩,hd,he⟩:=zga7 h
  simp only [Prod.mk.injEq] at he
  obtain ⟨rfl,rfl⟩:=he
  obtain ⟨C1,h1,h2,h3,h4,h5⟩:=decV_ok hI hρ hd
  exact ⟨C1,h1,h2,h3,h4,fun val hv => by simp only [RepA]; exact h5 val hv⟩
 cases v with
 | ref id off => simp only [resE,Option.some.injEq,Prod.mk.injEq] at h; exact stay h.1.symm h.2.symm
 | nilp => simp only [resE,Option.some.injEq,Prod.mk.injEq] at h; exact stay h.1.symm h.2.symm
 | fn f l => simp only [resE,Option.some.injEq,Prod.mk.injEq] at h; exact stay h.1.symm h.2.symm
 | bref b id => simp only [resE,Option.some.injEq,Prod.mk.injEq] at h; exact stay h.1.symm h.2.symm
 | nils =>
  simp only [resE] at h
  split at h
  ·simp only [Option.some.injEq,Prod.mk.injEq] at h; exact stay h.1.symm h.2.symm
  ·exact gen h
 | cap0 =>
  simp only [resE] at h
  split at h
  ·simp only [Option.some.injEq,Prod.mk.injEq] at h; exact stay h.1.symm h.2.symm
  ·exact gen h
 | rsl id ver sz off len =>
  simp only [resE] at h
  split at h
  ·simp only [Option.some.injEq,Prod.mk.injEq] at h; exact stay h.1.symm h.2.symm
  ·exact gen h
 | agg l =>
  simp only [resE] at h
  split at h
  ·simp only [Option.some.injEq,Prod.mk.injEq] at h; exact stay h.1.symm h.2.symm
  ·exact gen h
 | _ => exact gen h
theorem ressE_ok {keep : Bool} : ∀ {l : List AVal} {C : Ctx} {T : TLook} {vs : List AVal} {us : List (RId × TObj)},Inv B C → C.ρ = flat T → ressE T keep l = some (vs,us) →
  DecOK B C T us fun C1 => ∀ cs,RepL C l cs → RepL C1 vs cs
 | [],C,T,vs,us,hI,hρ,h => by
  simp only [ressE,Option.some.injEq,Prod.mk.injEq] at h
  obtain ⟨rfl,rfl⟩:=h
  exact ⟨C,rfl,hρ,hI,Grow.refl C,fun cs hcs => by simpa [RepL] using hcs⟩
 | v :: r,C,T,vs,us,hI,hρ,h => by
  simp only [ressE] at h
  split at h
  ·cases h
  ·rename_i d us1 h1
   split at h
   ·cases h
   ·rename_i ds us2 h2
    simp only [Option.some.injEq,Prod.mk.injEq] at h
    obtain ⟨rfl,rfl⟩:=h
    refine (resE_ok hI hρ h1).then_ fun C1 e1 e2 e3 e4 e5 => ?_
    obtain ⟨C2,k1,k2,k3,k4,k5⟩:=ressE_ok e3 e2 h2
    refine ⟨C2,k1,k2,k3,k4,fun cs hcs => ?_⟩
    simp only [RepL] at hcs ⊢
    obtain ⟨c,cs',rfl,h3,h4⟩:=hcs
    exact ⟨c,cs',rfl,(e5 c h3).grow k4,k5 cs' (h4.grow e4)⟩
theorem zipIdx_gE : ∀ (args : List AVal) (i t : Nat),gE ((args.zipIdx i).map fun p => (p.2,p.1)) (i + t) = (args[t]?).getD .undef
 | [],i,t => rfl
 | v :: r,i,0 => by simp [gE]
 | v :: r,i,t + 1 => by
  simp only [List.zipIdx_cons,List.map_cons,gE]
  rw [if_neg (by omega),show i + (t + 1) = i + 1 + t by omega,zipIdx_gE r (i + 1) t]
  simp
theorem zipIdx_gT : ∀ (os : List TObj) (i : Nat) (id : RId),gT ((os.zipIdx i).map fun p => (((0,p.2) : RId),p.1)) id = if id.1 = 0 ∧ i ≤ id.2 then os[id.2 - i]? else none
 | [],i,id => by simp [gT]
 | o :: r,i,id => by
  simp only [List.zipIdx_cons,List.map_cons,gT]
  obtain ⟨a,b⟩:=id
  by_cases e : (0,i) = (a,b)
  ·cases e; simp
  ·rw [if_neg e,zipIdx_gT r (i + 1) (a,b)]
   simp only
   by_cases h0 : a = 0
   ·subst h0
    have hne : i ≠ b:=fun h => e (by rw [h])
    by_cases hle : i + 1 ≤ b
    ·rw [if_pos ⟨rfl,hle⟩,if_pos ⟨rfl,by omega⟩,show b - i = b - (i + 1) + 1 by omega]
     simp
    ·rw [if_neg (fun h => hle h.2),if_neg (fun h => by omega)]
   ·rw [if_neg (fun h => h0 h.1),if_neg (fun h => h0 h.1)]
theorem ret_sound {C : Ctx} {s : St} {a : Act} (hG : Good B C0 C n s a) (hle : BLe (baseOf C0) B) {fn : AFun} {m : Nat} {v : AVal} {os' : List TObj} (h : retE fn m s = some (v,os')) {rs : List AVal} (hrs : resVs s fn.res = some rs) {vals : List Value} (hrl : RepL C rs vals) :
  ∃ C',C'.w = C.w ∧ C'.ρ = flat (zub7 os') ∧ Inv (baseOf C0) C' ∧
   RepA C' v (retV vals) ∧ Ext (fun i => i) (fun id => id.1.1 = 0 ∧ id.1.2 < m) C0 C':=by
 unfold retE at h
 rw [hrs] at h
 simp only at h
 split at h
 ·cases h
 ·rename_i vs us hvs
  obtain ⟨C1,k1,k3,k4,k5,k6⟩:=ressE_ok (hle.imp _ hG.inv) hG.ρ hvs
  have hvr:=k6 _ hrl
  simp only [gT_pTs] at h
  split at h
  ·cases h
  ·rename_i order hcol
   obtain ⟨r1,r2,r3,r4,_⟩:=zid7 _ 64 _ [] order hcol (by simp) (by simp)
   have hnd : ((List.range m).map (fun j => ((0,j) : RId))).Nodup:=by
    rw [List.nodup_iff_pairwise_ne,List.pairwise_iff_getElem]
    intro i j hi hj hlt h
    simp at h
    omega
   obtain ⟨l,hl⟩:=collect_front _ hcol hnd (by simp)
   simp only [List.nil_append] at hl
   split at h
   ·cases h
   ·rename_i os hos
    simp only [Option.some.injEq,Prod.mk.injEq] at h
    obtain ⟨hv,rfl⟩:=h
    obtain ⟨g1,g2⟩:=zze7 hos
    obtain ⟨hext,hinv⟩:=callee_inv k4 k3 r1 r4 g1 g2
    have hpos : ∀ j,j < m → (0,j) ∈ order ∧ toPos order (0,j) = (0,j):=by
     intro j hj
     have ho : order[j]? = some (0,j):=by
      rw [hl,List.getElem?_append_left (by simpa using hj)]
      simp [hj]
     refine ⟨List.mem_of_getElem? ho,?_⟩
     simp only [toPos,zvd7 r1 ho]
    have back : ∀ id o,(zra7 C1 order (os.map (TObj.tren (toPos order)))).ρ id = some o → ∃ i o1,C1.ρ i = some o1 ∧ o = o1.ren (liftF (toPos order)) ∧ (zra7 C1 order (os.map (TObj.tren (toPos order)))).μ id = C1.μ i:=by
     intro id o ho
     simp only [zra7,flat,zub7] at ho
     split at ho
     ·rename_i o' he
      split at he
      ·rename_i h0
       rw [List.getElem?_map] at he
       obtain ⟨o1,ho1,ho2⟩:=zga7 he
       have hlt : id.1.2 < order.length:=by rw [← g1]; exact (List.getElem?_eq_some_iff.1 ho1).1
       have hi : order[id.1.2]? = some order[id.1.2]:=by simp [hlt]
       have hTi:=g2 _ _ hi
       rw [ho1] at hTi
       have hid1 : id.1 = toPos order order[id.1.2]:=by rw [toPos,zvd7 r1 hi,← h0]
       rw [← ho2,hid1,flatR_ren] at ho
       obtain ⟨ob1,q1,q2⟩:=zga7 ho
       refine ⟨(order[id.1.2],id.2),ob1,by rw [k3]; simp only [flat,← hTi]; exact q1,q2.symm,?_⟩
       simp only [zra7,hi,Option.getD_some]
      ·cases he
     ·cases ho
    refine ⟨zra7 C1 order (os.map (TObj.tren (toPos order))),k1,rfl,?_,?_,?_⟩
    ·refine ⟨hinv.objs,hinv.disj,fun id o ho hw => ?_,hinv.bdisj,fun id x hx => ?_,?_,k4.Fw,k4.Fsub,k4.Fnew⟩
     ·obtain ⟨i,o1,b1,b2,b3⟩:=back id o ho
      rw [b3]
      exact k4.own i o1 b1 (by rw [b2,own_ren] at hw; exact hw)
     ·obtain ⟨i,o1,b1,b2,b3⟩:=back id _ hx
      rw [b3]
      obtain ⟨y,rfl⟩:=zne7 b2.symm
      exact k4.bown i y b1
     ·exact k4.kept
    ·have hrep:=RepL.ext hext vs _ (fun i hi => r3 i.1 (List.mem_append.2 (.inr (List.mem_map.2 ⟨i,hi,rfl⟩)))) hvr
     subst hv
     have hlen:=hrep.length
     change RepL _ (AVal.trenL (toPos order) vs) _ at hrep
     change _ = (AVal.trenL (toPos order) vs).length at hlen
     generalize AVal.trenL (toPos order) vs = us at hrep hlen
     match us,vals,hrep,hlen with
     | [],[],hrep,_ => simp only [RepA]; exact ⟨_,rfl,by simpa using hrep⟩
     | [u],[val],hrep,_ =>
      simp only [RepL] at hrep
      obtain ⟨c,cs,e,h1,h2⟩:=hrep
      simp only [List.cons.injEq] at e
      rw [e.1]
      exact h1
     | u :: u' :: us,val :: val' :: vals,hrep,_ =>
      simp only [RepA]
      exact ⟨_,rfl,by simpa using hrep⟩
     | [],_ :: _,_,hlen => simp at hlen
     | [_],[],_,hlen => simp at hlen
     | [_],_ :: _ :: _,_,hlen => simp at hlen
     | _ :: _ :: _,[],_,hlen => simp at hlen
     | _ :: _ :: _,[_],_,hlen => simp at hlen
    ·have h1:=hG.ext.thenGrow k5
     refine ⟨fun b o v hv => hext.F _ _ _ (h1.F _ _ _ hv),fun id L hid hb => ?_,fun id A hid ha => ?_,fun id b hid hb => by
      obtain ⟨⟨i0,j⟩,p⟩:=id
      obtain ⟨rfl,hj⟩:=hid
      have:=hext.blk ((0,j),p) b (hpos j hj).1 (h1.blk ((0,j),p) b rfl hb)
      simp only [liftF] at this
      rwa [(hpos j hj).2] at this⟩
     ·obtain ⟨⟨i0,j⟩,p⟩:=id
      obtain ⟨rfl,hj⟩:=hid
      have:=hext.box ((0,j),p) L (hpos j hj).1 (h1.box ((0,j),p) L rfl hb)
      simp only [liftF] at this
      rwa [(hpos j hj).2] at this
     ·obtain ⟨⟨i0,j⟩,p⟩:=id
      obtain ⟨rfl,hj⟩:=hid
      obtain ⟨A',a1,a2,a3⟩:=h1.arr ((0,j),p) A rfl ha
      obtain ⟨A'',b1,b2,b3⟩:=hext.arr ((0,j),p) A' (hpos j hj).1 a1
      simp only [liftF] at b1
      rw [(hpos j hj).2] at b1
      refine ⟨A'',b1,Nat.le_trans a2 b2,fun e => ?_⟩
      obtain ⟨c1,c2,c3⟩:=a3 (by omega)
      obtain ⟨d1,d2,d3⟩:=b3 (by omega)
      exact ⟨by rw [d1,c1],by rw [d2,c2],by omega⟩
theorem Inv.other {C : Ctx} (hI : Inv B C) {D : Nat} {ds : Option (List Deferred)} (h : C.w.heap[D]? = some (.deferred ds)) (hB : B.w.heap.size ≤ D) (ds' : Option (List Deferred)) :
  Inv B { C with w:=C.w.putObj D (.deferred ds') } ∧ Grow C { C with w:=C.w.putObj D (.deferred ds') }:=by
 have hk : KeptB C.w (C.w.putObj D (.deferred ds')) (fun _ _ => False) (fun i => i = D):=putObj_kept h (zud7 h) (by simp) _
 have hg : Grow C { C with w:=C.w.putObj D (.deferred ds') }:=⟨fun _ _ _ h => h,fun _ _ _ h => h,fun _ A _ h => ⟨A,h,Nat.le_refl _,fun _ => ⟨rfl,rfl,Nat.le_refl _⟩⟩,fun _ _ _ h => h⟩
 refine ⟨⟨fun id o ho => ?_,hI.disj,hI.own,hI.bdisj,hI.bown,?_,fun b o v hv => hk.cell_some (hI.Fw b o v hv) (fun x => x),hI.Fsub,hI.Fnew⟩,hg⟩
 ·refine (hI.objs id o ho).keep hg hk (fun b o v hv => .inl hv) (fun _ _ _ x => x) fun x hx e => ?_
  subst hx
  exact OwnBlk.not_deferred hI h ⟨id,x,ho,e⟩
 ·refine hI.kept.trans hk (fun _ _ _ h => h) (fun _ _ _ h => h.elim) (fun _ _ h => h) (fun b hb e => ?_) (fun b hb h => (hI.kept.blk b hb h).1)
  subst e; omega
theorem leaves_sound {fn : Func} {R : Ending → World → Prop} {s : St} : ∀ (ds : List Nat) {B : Base} {C : Ctx} {a : Act},Good B C0 C n s a → B.ds = ds → BLe (baseOf C0) B →
  (∀ (C' : Ctx) (B' : Base),Good B' C0 C' n s { a with defers:=[] } → BLe (baseOf C0) B' → ∃ v,(results fn a.tmps).run P C'.w = .ok v C'.w ∧ R (.returned v) C'.w) →
  LeavesInM Fence.wide 0 P fn a.tmps R a.defers .returning C.w
 | [],B,C,a,hG,hds,hle,h => by
  have hd : a.defers = []:=by rw [hG.defers,hds]; rfl
  obtain ⟨tm,df⟩:=a
  simp only at hd
  subst hd
  obtain ⟨v,h1,h2⟩:=h C B hG hle
  exact ⟨v,h1,h2⟩
 | D :: ds,B,C,a,hG,hds,hle,h => by
  have hd : a.defers = { target:=.collected D,args:=#[] } :: marks ds:=by rw [hG.defers,hds]; rfl
  obtain ⟨q1,q2,q3⟩:=hG.ds D (by rw [hds]; simp)
  have hD:=hG.inv.kept.heap q1 (zud7 q1) q2
  obtain ⟨i2,g2⟩:=(hle.imp _ hG.inv).other hD q3 none
  obtain ⟨i3,b3⟩:=i2.rebase ds
  have hnd : D ∉ ds ∧ ds.Nodup:=by have:=hG.le.2; rw [hds] at this; exact List.nodup_cons.1 this
  have hsz : C0.w.heap.size ≤ (C.w.putObj D (.deferred none)).heap.size:=by rw [World.putObj_size]; exact Nat.le_trans hG.le.1 hG.inv.kept.size
  rw [hd]
  refine ⟨by simp,.inl ⟨D,C.w.putObj D (.deferred none),rfl,run_takeDeferred hD,?_⟩⟩
  have hG2 : Good ⟨C.w.putObj D (.deferred none),C.F,OwnSet { C with w:=C.w.putObj D (.deferred none) },OwnBlk { C with w:=C.w.putObj D (.deferred none) },ds⟩ C0 { C with w:=C.w.putObj D (.deferred none) } n s { a with defers:=marks ds }:=by
   refine ⟨hG.ρ,i3,⟨fun t => (hG.env.env t).grow g2,hG.env.glob.mono g2.F⟩,hG.size,hG.ext.thenGrow g2,rfl,fun D' hD' => ?_,hsz,hnd.2⟩
   obtain ⟨p1,p2,p3⟩:=hG.ds D' (by rw [hds]; simp [hD'])
   have hne : D' ≠ D:=fun e => hnd.1 (e ▸ hD')
   have h1 : (C.w.putObj D (.deferred none)).heap[D']? = some (.deferred (some [])):=by
    rw [World.putObj_heap_other hne]; exact hG.inv.kept.heap p1 (zud7 p1) p2
   exact ⟨h1,OwnBlk.not_deferred i2 h1,p3⟩
  exact leaves_sound ds hG2 rfl b3 h
def LoopsOK (P : Program) : Prop:=∀ f fn c st,P.funcs[f]? = some fn → fn.body = some c → rfs c = [st] → Glob.lps f = some (fn.ntmps,st)
theorem fun_sound (hS : zbe7 P K) (hL : LoopsOK P) {an : Ann} {keep : Bool} {f : FuncId} {fn : AFun} (hc : cFun P an keep f = some fn) {args : List AVal} {os : List TObj} {v : AVal} {os' : List TObj} (h : zkd7 K fn args os = some (v,os')) :
  zkb7 P f = true ∧ CallOK P f args os v os':=by
 unfold cFun at hc
 split at hc
 ·rename_i F hF
  split at hc
  ·rename_i c hb
   split at hc
   ·rename_i ac res hac hres
    have hchk : (decide (F.params.size + F.nfree ≤ F.ntmps) && zkb7 P f && rfOk an f c) = true ∧ some (⟨F.params.size + F.nfree,res,keep,ac,none⟩ : AFun) = some fn:=by
     split at hc
     ·rename_i e; exact ⟨e,hc⟩
     ·cases hc
    obtain ⟨hchk,hc⟩:=hchk
    simp only [Bool.and_eq_true,decide_eq_true_eq] at hchk
    simp only [Option.some.injEq] at hc
    subst hc
    refine ⟨hchk.1.2,?_⟩
    have hl : ∀ st ∈ rfs c,Glob.lps (tagOf an) = some (F.ntmps,st):=by
     have h2:=hchk.2
     unfold rfOk at h2
     match hr : rfs c with
     | [] => intro st hst; simp at hst
     | [st] =>
      intro st' hst'
      simp only [List.mem_singleton] at hst'
      subst hst'
      rw [hr] at h2
      have : tagOf an = f:=by simpa using h2
      rw [this]
      exact hL f F c st' hF hb hr
     | _ :: _ :: _ => rw [hr] at h2; simp at h2
    intro C vals hρ hGl hI hr
    unfold zkd7 at h
    simp only at h
    split at h
    ·rename_i hlen
     have hsz : vals.size = F.params.size + F.nfree:=by
      have:=hr.length
      simp only [Array.length_toList] at this
      omega
     have hG0 : Good (baseOf C) C C F.ntmps (enter args os) { tmps:=vals ++ Array.replicate (F.ntmps - vals.size) undef,defers:=[] }:=by
      refine ⟨?_,hI,⟨fun t => ?_,hGl⟩,by simp; omega,?_,rfl,fun D hD => by simp at hD,Nat.le_refl _,by simp⟩
      ·rw [hρ]
       congr 1
       funext id
       simp only [enter,zipIdx_gT os 0 id,zub7,Nat.zero_le,and_true,Nat.sub_zero]
      ·have e:=zipIdx_gE args 0 t
       simp only [Nat.zero_add] at e
       simp only [enter,e]
       cases ht : args[t]? with
       | none => simp [RepA]
       | some x =>
        obtain ⟨c,hc1,hc2⟩:=hr.get ht
        simp only [Option.getD_some]
        have hlt : t < vals.size:=by
         have:=(List.getElem?_eq_some_iff.1 hc1).1
         simpa using this
        have : (vals ++ Array.replicate (F.ntmps - vals.size) undef).getD t undef = c:=by
         rw [Array.getD_eq_getD_getElem?,Array.getElem?_append_left hlt]
         simp only [Array.getElem?_toList] at hc1
         rw [hc1]
         rfl
        rw [this]
        exact hc2
      ·have:=Grow.refl C
       exact ⟨this.F,fun id L _ hb => this.box id L trivial hb,fun id A _ ha => this.arr id A trivial ha,fun id b _ hb => this.blk id b trivial hb⟩
     have fin : ∀ {x : AEx} {s : St},exec K ac (enter args os) = some (x,s) → (x = .normal ∨ x = .ret) → retE ⟨F.params.size + F.nfree,res,keep,ac,none⟩ os.length s = some (v,os') →
       Calls P f vals C.w (PostOK C os v os'):=by
      intro x s hex hx hret
      refine (callsIn_wide (n:=0)).1 (callsIn_of_wp_marks hF hb trivial (code_sound (rd:=none) hS hac (.inl rfl) hl hex hG0 fun a' C' B' hB hG' => ?_))
      obtain ⟨rs,hrs⟩ : ∃ rs,resVs s res = some rs:=by
       unfold retE at hret
       simp only at hret
       cases e : resVs s res with
       | none => rw [e] at hret; cases hret
       | some rs => exact ⟨rs,rfl⟩
      have hlv : LeavesInM Fence.wide 0 P F a'.tmps (PostOK C os v os') a'.defers .returning C'.w:=by
       refine leaves_sound B'.ds hG' rfl hB fun C2 B2 hG2 hB2 => ?_
       obtain ⟨vals',hrun,hrl⟩:=results_run hG2 hres hrs
       obtain ⟨C'',e1,e2,e3,e4,e5⟩:=ret_sound hG2 hB2 hret hrs hrl
       exact ⟨_,hrun,_,C'',rfl,e1,e2,e3,e4,e5⟩
      rcases hx with rfl | rfl
      ·exact hlv
      ·exact hlv
     split at h
     ·rename_i s hex
      exact fin hex (.inl rfl) h
     ·rename_i s hex
      exact fin hex (.inr rfl) h
     ·cases h
    ·cases h
   ·cases hc
  ·cases hc
 ·cases hc
theorem fold_rep {C : Ctx} : ∀ (ps : List Nat) (avs : List AVal) (vs : List Value) (env : Env) (tm : Array Value),ps.Nodup → (∀ p ∈ ps,p < tm.size) → ps.length = vs.length → RepL C (avs.take ps.length) vs →
  (∀ t,RepA C (gE env t) (tm.getD t undef)) →
  ((ps.zip vs).foldl (fun (tm : Array Value) (p : Nat × Value) => tm.setIfInBounds p.1 p.2) tm).size = tm.size ∧
  (∀ t,t ∉ ps → ((ps.zip vs).foldl (fun (tm : Array Value) (p : Nat × Value) => tm.setIfInBounds p.1 p.2) tm).getD t undef = tm.getD t undef) ∧
  ∀ t,RepA C (gE (ps.zip avs ++ env) t) (((ps.zip vs).foldl (fun (tm : Array Value) (p : Nat × Value) => tm.setIfInBounds p.1 p.2) tm).getD t undef)
 | [],avs,vs,env,tm,_,_,_,_,h => ⟨rfl,fun _ _ => rfl,h⟩
 | p :: ps,avs,[],env,tm,_,_,hl,_,_ => by simp at hl
 | p :: ps,[],v :: vs,env,tm,_,_,hl,hr,_ => by simp [RepL] at hr
 | p :: ps,x :: avs,v :: vs,env,tm,hn,hp,hl,hr,h => by
  simp only [List.length_cons,List.take_succ_cons,RepL] at hr
  obtain ⟨c,cs,e,hx,hr⟩:=hr
  simp only [List.cons.injEq] at e
  obtain ⟨rfl,rfl⟩:=e
  rw [List.nodup_cons] at hn
  have hlt : p < tm.size:=hp p (by simp)
  have hget : ∀ t,(tm.setIfInBounds p v).getD t undef = if p = t then v else tm.getD t undef:=by
   intro t
   by_cases e : p = t
   ·subst e; simp [Array.getD_eq_getD_getElem?,hlt]
   ·simp [Array.getD_eq_getD_getElem?,Array.getElem?_setIfInBounds_ne e,e]
  have henv : ∀ t,RepA C (gE ((p,x) :: env) t) ((tm.setIfInBounds p v).getD t undef):=by
   intro t
   rw [hget]
   simp only [gE]
   split
   ·exact hx
   ·exact h t
  obtain ⟨h1,h2,h3⟩:=fold_rep ps avs vs ((p,x) :: env) (tm.setIfInBounds p v) hn.2 (fun q hq => by simpa using hp q (by simp [hq])) (by simpa using hl) hr henv
  simp only [List.zip_cons_cons,List.foldl_cons]
  refine ⟨by rw [h1]; simp,fun t ht => ?_,fun t => ?_⟩
  ·simp only [List.mem_cons,not_or] at ht
   rw [h2 t ht.2,hget,if_neg (fun e => ht.1 e.symm)]
  ·have key : ∀ (l : Env),p ∉ l.map (·.1) → gE (l ++ (p,x) :: env) t = gE ((p,x) :: (l ++ env)) t:=by
    intro l
    induction l with
    | nil => intro _; rfl
    | cons q l ih =>
     intro hq
     simp only [List.map_cons,List.mem_cons,not_or] at hq
     have:=ih hq.2
     simp only [List.cons_append,gE] at this ⊢
     rw [this]
     by_cases e1 : q.1 = t
     ·by_cases e2 : p = t
      ·exact absurd (e2.trans e1.symm) hq.1
      ·simp [e1,e2]
     ·simp [e1]
   have hp2 : p ∉ (ps.zip avs).map (·.1):=fun hm => by
    obtain ⟨q,hq,rfl⟩:=List.mem_map.1 hm
    exact hn.1 (List.of_mem_zip hq).1
   have:=h3 t
   rw [key _ hp2] at this
   simpa [List.cons_append] using this
theorem env_rep {C : Ctx} {tm : Array Value} : ∀ {env : Env},(∀ p ∈ env,RepA C p.2 (tm.getD p.1 undef)) → ∀ t,RepA C (gE env t) (tm.getD t undef)
 | [],_,t => by simp [gE,RepA]
 | (x,v) :: r,h,t => by
  simp only [gE]
  split
  ·rename_i e; subst e; exact h (x,v) (by simp)
  ·exact env_rep (fun p hp => h p (by simp [hp])) t
theorem yield_sound (hS : zbe7 P K) (hL : LoopsOK P) {lps : Nat → Option ALoop} (hlps : ∀ k lp,lps k = some lp → ∃ an,cLoop P an k = some lp) {args : List AVal} {os : List TObj} {v : AVal} {os' : List TObj} (h : yieldE K lps args os = some (v,os')) : YieldOK P args os v os':=by
 intro C vals l hρ hGl hI hr
 unfold yieldE yieldG at h
 split at h
 ·rename_i j hlast
  split at h
  ·rename_i k env hj
   split at h
   ·rename_i lp hlp
    split at h
    ·rename_i hlen
     split at h
     ·rename_i s1 hex1
      split at h
      ·rename_i k1 env1 hob1
       split at h
       ·rename_i e s2 hex2
        split at h
        ·rename_i k2 env2 hob2
         have hρj : C.ρ ((0,j),0,0) = some (.blk (.loop k .ready env)):=by
          rw [hρ]; simp [flat,zub7,hj,flatR]
         have hal : args.length = vals.size + 1:=by have:=hr.length; simpa using this.symm
         have hat : blkAt C ((0,j),0,0) = some l:=by
          rw [List.getLast?_eq_getElem?] at hlast
          obtain ⟨c,hc1,hc2⟩:=hr.get hlast
          have hc1' : c = .func (.yield l) #[] #[]:=by
           rw [hal] at hc1
           simpa using hc1.symm
          subst hc1'
          simp only [RepA,if_true] at hc2
          obtain ⟨b,q1,q2⟩:=hc2
          simp only [Value.func.injEq,Fn.yield.injEq,and_true] at q2
          rw [q2]; exact q1
         have hb : (C.μ ((0,j),0,0)).b = l:=by simpa [blkAt,hρj] using hat
         obtain ⟨_,r,l1,l2,l3,l4⟩:=hI.objs _ _ hρj
         rw [hb] at l1
         obtain ⟨an,hcl⟩:=hlps k lp hlp
         unfold cLoop at hcl
         split at hcl
         ·rename_i F hF
          split at hcl
          ·rename_i ps ca cb hrf
           split at hcl
           ·rename_i xa xb hca hcb
            split at hcl
            ·rename_i hchk
             obtain ⟨c1,c2,c3,c4⟩:=hchk
             simp only [Option.some.injEq] at hcl
             subst hcl
             obtain ⟨c0,hc0,hc0'⟩ : ∃ c0,F.body = some c0 ∧ rfs c0 = [(ps,ca,cb)]:=by
              cases e : F.body with
              | none => rw [e] at hrf; cases hrf
              | some c0 => rw [e] at hrf; exact ⟨c0,rfl,by simpa using hrf⟩
             have hlk:=hL k F c0 _ hF hc0 hc0'
             rw [hlk] at l2
             simp only [Option.some.injEq,Prod.mk.injEq] at l2
             obtain ⟨p1,p2,p3,p4⟩:=l2
             simp only at hlen
             have hvs : vals.size = r.params.size:=by rw [← p2]; simp at hlen; omega
             have hps : ps.size = r.params.size:=by rw [p2]
             refine ⟨r.fn,_,r.assign,r.body,run_yield l1 hvs,roundIn_of_wpIn trivial ?_⟩
             rw [← p2,← p3,← p4]
             have htake : RepL C (args.take ps.toList.length) vals.toList:=by
              have h0 : vals.toList.length = ps.toList.length:=by simp only [Array.length_toList]; omega
              have:=hr.take ps.toList.length
              rw [Array.toList_push,List.take_append_of_le_length (Nat.le_of_eq h0.symm),List.take_of_length_le (Nat.le_of_eq h0)] at this
              exact this
             obtain ⟨f1,f2,f3⟩:=fold_rep ps.toList args vals.toList env r.tmps c1 (fun p hp => by have:=List.all_eq_true.1 c2 p hp; rw [← p1]; simpa using this) (by simp only [Array.length_toList]; omega) htake (env_rep l4)
             have hfold : (ps.zip vals).foldl (fun tmps (t,a) => tmps.setIfInBounds t a) r.tmps = (ps.toList.zip vals.toList).foldl (fun (tm : Array Value) (p : Nat × Value) => tm.setIfInBounds p.1 p.2) r.tmps:=by
              rw [← Array.foldl_toList,Array.toList_zip]
             rw [hfold]
             have hG0 : Good (baseOf C) C C F.ntmps ⟨ps.toList.zip args ++ env,(enter [] os).objs⟩ { tmps:=(ps.toList.zip vals.toList).foldl (fun (tm : Array Value) (p : Nat × Value) => tm.setIfInBounds p.1 p.2) r.tmps,defers:=[] }:=by
              refine ⟨?_,hI,⟨f3,hGl⟩,by rw [f1,p1],?_,rfl,fun D hD => by simp at hD,Nat.le_refl _,by simp⟩
              ·rw [hρ]
               congr 1
               funext id
               simp only [enter,zipIdx_gT os 0 id,zub7,Nat.zero_le,and_true,Nat.sub_zero]
              ·have:=Grow.refl C
               exact ⟨this.F,fun id L _ hb => this.box id L trivial hb,fun id A _ ha => this.arr id A trivial ha,fun id b _ hb => this.blk id b trivial hb⟩
             have hF0 : Fence.wide.inRound l = fR (some l):=rfl
             rw [hF0]
             refine code_sound (rd:=some l) hS hca (.inr c3) (by rw [c3]; simp) hex1 hG0 fun a1 C1 B1 hB1 hG1 => ?_
             have at1 : blkAt C1 ((0,j),0,0) = some l:=hG1.ext.blk _ _ rfl hat
             have ρ1 : C1.ρ ((0,j),0,0) = some (.blk (.loop k1 .ready env1)):=by rw [hG1.ρ]; simp only [flat,hob1,flatR,and_self,if_true]
             have b1 : (C1.μ ((0,j),0,0)).b = l:=by simpa [blkAt,ρ1] using at1
             obtain ⟨_,r1,m1,m2,m3,m4⟩:=hG1.inv.objs _ _ ρ1
             rw [b1] at m1
             refine ⟨_,run_beginRound m1 m3.1,?_⟩
             obtain ⟨i2,g2⟩:=hG1.inv.turn ρ1 (.loop { r1 with state:=.busy }) (by simp) (.loop k1 .busy env1) (fun C' e1 e2 hg => by
              rw [b1] at e1 ⊢
              refine ⟨{ r1 with state:=.busy },?_,m2,rfl,fun p hp => (m4 p hp).grow hg⟩
              rw [e1]
              have:=(Array.getElem?_eq_some_iff.1 m1).1
              simp [this])
             rw [b1] at i2 g2
             generalize hC2 : ({ C1 with w:={ C1.w with heap:=C1.w.heap.setIfInBounds l (.loop { r1 with state:=.busy }) },ρ:=updL C1.ρ [(((0,j),0,0),.blk (.loop k1 .busy env1))] } : Ctx) = C2 at i2 g2
             have hw2 : C2.w = C1.w.putObj l (.loop { r1 with state:=.busy }):=by rw [← hC2]; rfl
             have hρ2 : C2.ρ = flat (gT (pT s1.objs (0,j) (.plain (.blk (.loop k1 .busy env1))))):=by
              have h1 : C2.ρ = updL C1.ρ [(((0,j),0,0),.blk (.loop k1 .busy env1))]:=by rw [← hC2]
              rw [h1,hG1.ρ,← flat_put (.inr ⟨_,hob1⟩)]
              congr 1
              funext i
              rw [gT_pT]
             have hG2 : Good B1 C C2 F.ntmps ⟨s1.env,pT s1.objs (0,j) (.plain (.blk (.loop k1 .busy env1)))⟩ a1 :=
              ⟨hρ2,i2,⟨fun t => (hG1.env.env t).grow g2,hG1.env.glob.mono g2.F⟩,hG1.size,hG1.ext.thenGrow g2,hG1.defers,hG1.ds,hG1.le⟩
             rw [← hw2]
             refine code_sound (rd:=some l) hS hcb (.inr c4) (by rw [c4]; simp) hex2 hG2 fun a3 C3 B3 hB3 hG3 => ?_
             have at3 : blkAt C3 ((0,j),0,0) = some l:=hG3.ext.blk _ _ rfl hat
             have ρ3 : C3.ρ ((0,j),0,0) = some (.blk (.loop k2 .busy env2)):=by rw [hG3.ρ]; simp only [flat,hob2,flatR,and_self,if_true]
             have b3 : (C3.μ ((0,j),0,0)).b = l:=by simpa [blkAt,ρ3] using at3
             obtain ⟨_,r3,n1,n2,n3,n4⟩:=hG3.inv.objs _ _ ρ3
             rw [b3] at n1
             have fin : ∃ u w',(Instr.endRound l (codeOf e)).run P C3.w = .ok u w' ∧ PostOK C os v os' (.returned u) w':=by
              refine ⟨_,_,run_endRound (codeOf e) n1,?_⟩
              obtain ⟨r4,hr4⟩ : ∃ r4 : Go.Loop,r4 = { r3 with state:=if (codeOf e).isNone then .ready else .done,pending:=codeOf e }:=⟨_,rfl⟩
              rw [← hr4]
              obtain ⟨i4,g4⟩:=hG3.inv.turn ρ3 (.loop r4) (by simp) (.loop k2 (stOf e) env2) (fun C' e1 e2 hg => by
               rw [b3] at e1 ⊢
               refine ⟨r4,?_,by rw [hr4]; exact n2,?_,fun p hp => by rw [hr4]; exact (n4 p hp).grow hg⟩
               ·rw [e1]
                have:=(Array.getElem?_eq_some_iff.1 n1).1
                simp [this]
               ·rw [hr4]
                cases e <;> simp [stOf,codeOf])
              rw [b3] at i4 g4
              generalize hC4 : ({ C3 with w:={ C3.w with heap:=C3.w.heap.setIfInBounds l (.loop r4) },ρ:=updL C3.ρ [(((0,j),0,0),.blk (.loop k2 (stOf e) env2))] } : Ctx) = C4 at i4 g4
              have hw4 : C4.w = C3.w.putObj l (.loop r4):=by rw [← hC4]; rfl
              have hρ4 : C4.ρ = flat (gT (pT s2.objs (0,j) (.plain (.blk (.loop k2 (stOf e) env2))))):=by
               have h1 : C4.ρ = updL C3.ρ [(((0,j),0,0),.blk (.loop k2 (stOf e) env2))]:=by rw [← hC4]
               rw [h1,hG3.ρ,← flat_put (.inr ⟨_,hob2⟩)]
               congr 1
               funext i
               rw [gT_pT]
              have hbool : (stOf e == LSt.ready) = (codeOf e).isNone:=by cases e <;> rfl
              have hG4 : Good B3 C C4 1 ⟨[(0,.dat (.bool (stOf e == .ready)))],pT s2.objs (0,j) (.plain (.blk (.loop k2 (stOf e) env2)))⟩ { tmps:=#[.bool (codeOf e).isNone],defers:=a3.defers }:=by
               refine ⟨hρ4,i4,⟨fun t => ?_,hG3.env.glob.mono g4.F⟩,rfl,hG3.ext.thenGrow g4,hG3.defers,hG3.ds,hG3.le⟩
               simp only [gE]
               split
               ·rename_i e0
                subst e0
                rw [hbool]
                simp [RepA,RepV,RepD,Value.cells,zfc7]
               ·simp [RepA]
              obtain ⟨C5,x1,x2,x3,x4,x5⟩:=ret_sound hG4 ((hB1.trans hB3)) h (rs:=[.dat (.bool (stOf e == .ready))]) rfl (vals:=[.bool (codeOf e).isNone]) (by
               simp only [RepL]
               refine ⟨_,_,rfl,?_,rfl⟩
               rw [hbool]
               simp [RepA,RepV,RepD,Value.cells,zfc7])
              rw [← hw4]
              exact ⟨_,C5,rfl,x1,x2,x3,x4,x5⟩
             cases e with
             | normal => exact fin
             | ret => exact fin
             | exit id => exact fin
            ·cases hcl
           ·cases hcl
          ·cases hcl
         ·cases hcl
        ·cases h
       ·cases h
      ·cases h
     ·cases h
    ·cases h
   ·cases h
  ·cases h
 ·cases h
structure TblOK (P : Program) (tbl : Tab) : Prop where
 fn : ∀ f fn,tbl.fn f = some fn → ∃ an keep g,cFun P an keep f = some g ∧ fn = { g with split:=fn.split }
 law : zbe7 P tbl.law
 lp : ∀ k lp,tbl.lp k = some lp → ∃ an,cLoop P an k = some lp
 loops : LoopsOK P
 yid : zkb7 P YID = false
theorem RepL.set {C : Ctx} {x : AVal} : ∀ {l : List AVal} {cs : List Value} {i : Nat} {c : Value},RepL C l cs → cs[i]? = some c → RepA C x c → RepL C (l.set i x) cs
 | [],cs,i,c,h,hi,hx => by simp only [RepL] at h; subst h; simp at hi
 | a :: r,cs,0,c,h,hi,hx => by
  simp only [RepL] at h
  obtain ⟨c',cs',rfl,h1,h2⟩:=h
  simp at hi
  subst hi
  exact ⟨_,_,rfl,hx,h2⟩
 | a :: r,cs,i + 1,c,h,hi,hx => by
  simp only [RepL] at h
  obtain ⟨c',cs',rfl,h1,h2⟩:=h
  simp at hi
  exact ⟨_,_,rfl,h1,RepL.set h2 hi hx⟩
theorem callOK_set {f : FuncId} {args : List AVal} {os : List TObj} {r : AVal × List TObj} {v : AVal} {os' : List TObj} (hc : CallOK P f args os r.1 r.2) (hr : r = (v,os') ∨ ((r.1 = .nils ∨ r.1 = .cap0) ∧ v = .cap0 ∧ r.2 = os')) : CallOK P f args os v os':=by
 intro C vals hρ hGl hI hrl
 obtain ⟨w,os2⟩:=r
 rcases hr with hr | ⟨hw,rfl,rfl⟩
 ·simp only [Prod.mk.injEq] at hr
  obtain ⟨rfl,rfl⟩:=hr
  exact hc C vals hρ hGl hI hrl
 ·refine (hc C vals hρ hGl hI hrl).mono fun e w' ⟨val,C',q1,q2,q3,q4,q5,q6⟩ => ⟨val,C',q1,q2,q3,q4,?_,q6⟩
  rcases hw with hw | hw
  ·simp only at hw
   subst hw
   simp only [RepA] at q5 ⊢
   exact ⟨none,q5⟩
  ·simp only at hw
   subst hw
   exact q5
theorem split_sound (hS : zbe7 P K) (hL : LoopsOK P) {an : Ann} {keep : Bool} {f : FuncId} {g fn : AFun} (hc : cFun P an keep f = some g) (he : fn = { g with split:=fn.split }) {args : List AVal} {os : List TObj} {v : AVal} {os' : List TObj} (h : runS K fn args os = some (v,os')) :
  zkb7 P f = true ∧ CallOK P f args os v os':=by
 have one : ∀ {args : List AVal} {r : AVal × List TObj},zkd7 K fn args os = some r → zkb7 P f = true ∧ CallOK P f args os r.1 r.2:=by
  intro args r h
  refine fun_sound hS hL hc ?_
  rw [he] at h
  exact h
 unfold runS at h
 split at h
 ·exact one h
 ·rename_i i hs
  split at h
  ·rename_i hi
   split at h
   ·rename_i r r' h1 h2
    have hboth : (r = (v,os') ∨ ((r.1 = .nils ∨ r.1 = .cap0) ∧ v = .cap0 ∧ r.2 = os')) ∧ (r' = (v,os') ∨ ((r'.1 = .nils ∨ r'.1 = .cap0) ∧ v = .cap0 ∧ r'.2 = os')):=by
     split at h
     ·rename_i e
      subst e
      simp only [Option.some.injEq] at h
      exact ⟨.inl h,.inl h⟩
     ·unfold joinR at h
      split at h
      ·split at h
       ·rename_i e
        subst e
        simp only [Option.some.injEq,Prod.mk.injEq] at h
        obtain ⟨rfl,rfl⟩:=h
        exact ⟨.inr ⟨.inl rfl,rfl,rfl⟩,.inr ⟨.inr rfl,rfl,rfl⟩⟩
       ·cases h
      ·split at h
       ·rename_i e
        subst e
        simp only [Option.some.injEq,Prod.mk.injEq] at h
        obtain ⟨rfl,rfl⟩:=h
        exact ⟨.inr ⟨.inr rfl,rfl,rfl⟩,.inr ⟨.inl rfl,rfl,rfl⟩⟩
       ·cases h
      ·cases h
    ·refine ⟨(one h1).1,?_⟩
     intro C vals hρ hGl hI hr
     obtain ⟨x,hx⟩ : ∃ x,args[i]? = some x:=by
      cases hx : args[i]? with
      | none => simp [hx,isEmp] at hi
      | some x => exact ⟨x,rfl⟩
     obtain ⟨c,hc1,hc2⟩:=hr.get hx
     rw [hx] at hi
     obtain ⟨a,cap,e1⟩ : ∃ a cap,c = .slice a 0 cap:=by
      unfold isEmp at hi
      split at hi
      ·rename_i e
       cases e
       simp only [RepA] at hc2
       have hsl:=hc2.cell rfl
       simp only [RepD] at hsl
       obtain ⟨a,cap,e1,_,_⟩:=hsl
       simp only [List.cons.injEq,and_true] at e1
       exact ⟨a,cap,e1⟩
      ·rename_i e
       cases e
       simp only [RepA] at hc2
       obtain ⟨_,a,cap,_,_,e1,_⟩:=hc2
       exact ⟨a,cap,e1⟩
      ·cases hi
     have hset : ∀ t,a.isNone = t → RepL C (args.set i (.emp t)) vals.toList:=fun t ht => hr.set hc1 (by
      simp only [RepA]
      exact ⟨a,cap,e1,ht⟩)
     cases ht : a.isNone with
     | true => exact (callOK_set (one h1).2 hboth.1 C vals hρ hGl hI (hset true ht))
     | false => exact (callOK_set (one h2).2 hboth.2 C vals hρ hGl hI (hset false ht))
   ·cases h
  ·exact one h
theorem kn_sound {tbl : Tab} (ht : TblOK P tbl) : ∀ n,zbe7 P (Kn tbl n)
 | 0 => fun f args os v os' h => by simp [Kn] at h
 | n + 1 => fun f args os v os' h => by
  simp only [Kn] at h
  split at h
  ·rename_i e
   exact .inr ⟨e,by rw [e]; exact ht.yid,yield_sound (kn_sound ht n) ht.loops ht.lp h⟩
  ·rename_i hne
   split at h
   ·rename_i g0 hfn
    obtain ⟨an,keep,g,hc,he⟩:=ht.fn f _ hfn
    exact .inl ⟨hne,split_sound (kn_sound ht n) ht.loops hc he h⟩
   ·exact ht.law f args os v os' h
theorem callT_sound {tbl : Tab} (ht : TblOK P tbl) : zbe7 P (callT tbl):=by
 intro f args os v os' h
 unfold callT at h
 split at h
 ·rename_i hex
  have:=Classical.choose_spec hex
  simp only [Option.some.injEq] at h
  rw [h] at this
  obtain ⟨n,hn⟩:=this
  exact kn_sound ht n f args os v os' hn
 ·cases h
end
end Go.Am

namespace Go.Am
variable [Glob]
def OrcLe (K K' : Orc) : Prop:=∀ f args os r,K f args os = some r → K' f args os = some r
theorem callE_orc {K : Orc} {site : Nat} {f : FuncId} {args : List (AVal × Bool)} {sc : Bool} {T : TLook} {out : TOut} (h : callE K site f args sc T = some out) :
  ∃ args' os r,K f args' os = some r ∧ ∀ K' : Orc,K' f args' os = some r → callE K' site f args sc T = some out:=by
 have h0:=h
 unfold callE at h
 split at h
 ·cases h
 ·rename_i vs us hvs
  split at h
  ·cases h
  ·rename_i order hcol
   split at h
   ·cases h
   ·rename_i os hos
    split at h
    ·cases h
    ·rename_i v os' hK
     refine ⟨_,_,(v,os'),hK,fun K' hK' => ?_⟩
     unfold callE
     simp only [hvs,hcol,hos,hK']
     exact h
theorem opT_orc {K : Orc} {site : Nat} {k : AK} {g : Nat → AVal} {ρ : TLook} {out : TOut} (h : opT K site k g ρ = some out) :
  (∀ K',opT K' site k g ρ = some out) ∨ ∃ f args os r,K f args os = some r ∧ ∀ K' : Orc,K' f args os = some r → opT K' site k g ρ = some out:=by
 unfold opT at h
 split at h
 ·rename_i f args sc
  right
  obtain ⟨a,os,r,h1,h2⟩:=callE_orc h
  exact ⟨f,a,os,r,h1,fun K' hK' => h2 K' hK'⟩
 ·rename_i x args sc
  split at h
  ·rename_i f caps hf
   right
   by_cases hbig : BIGF ≤ f
   ·rw [if_pos hbig] at h
    by_cases hne : f - BIGF = YID
    ·rw [if_pos hne] at h; cases h
    ·rw [if_neg hne] at h
     obtain ⟨a,os,r,h1,h2⟩:=callE_orc h
     refine ⟨f - BIGF,a,os,r,h1,fun K' hK' => ?_⟩
     simp only [opT,hf,if_pos hbig,if_neg hne]
     exact h2 K' hK'
   ·rw [if_neg hbig] at h
    by_cases hne : f = YID
    ·rw [if_pos hne] at h; cases h
    ·rw [if_neg hne] at h
     obtain ⟨a,os,r,h1,h2⟩:=callE_orc h
     refine ⟨f,a,os,r,h1,fun K' hK' => ?_⟩
     simp only [opT,hf,if_neg hbig,if_neg hne]
     exact h2 K' hK'
  ·rename_i id hf
   right
   obtain ⟨a,os,r,h1,h2⟩:=callE_orc h
   refine ⟨YID,a,os,r,h1,fun K' hK' => ?_⟩
   simp only [opT,hf]
   exact h2 K' hK'
  ·cases h
 ·left; intro K'; unfold opT; exact h
 ·left; intro K'; unfold opT; exact h
 ·left; intro K'; unfold opT; exact h
 ·left; intro K'; unfold opT; exact h
 ·left; intro K'; unfold opT; exact h
 ·left; intro K'; unfold opT; exact h
 ·left
  intro K'
  rename_i hn1 hn2 hn3 hn4 hn5 hn6 hn7 hn8
  unfold opT
  split
  ·exact absurd rfl (hn1 _ _ _)
  ·exact absurd rfl (hn2 _ _ _)
  ·exact absurd rfl (hn3 _)
  ·exact absurd rfl (hn4 _ _ _ _)
  ·exact absurd rfl (hn5 _ _ _)
  ·exact absurd rfl hn6
  ·exact absurd rfl (hn7 _ _ _ _ _)
  ·exact absurd rfl (hn8 _ _ _ _)
  ·exact h
structure Row (R : Nat → Orc) (K : Orc) : Prop where
 mono : ∀ n m,n ≤ m → OrcLe (R n) (R m)
 lim : ∀ f args os r,K f args os = some r → ∃ n,R n f args os = some r
theorem aoE_mono {K K' : Orc} (hk : OrcLe K K') {o : AO} {g : Nat → AVal} {ρ : TLook} {out : TOut} (h : aoE K o g ρ = some out) : aoE K' o g ρ = some out:=by
 have hop : ∀ {site k},opT K site k g ρ = some out → opT K' site k g ρ = some out:=by
  intro site k h
  rcases opT_orc h with h' | ⟨f,args,os,r,h1,h2⟩
  ·exact h' K'
  ·exact h2 K' (hk _ _ _ _ h1)
 unfold aoE at h ⊢
 split at h
 ·exact hop h
 ·split at h
  ·split at h
   ·rename_i hb
    rw [if_pos hb]
    exact hop h
   ·rename_i hb
    rw [if_neg hb]
    exact h
  ·exact h
  ·cases h
theorem aoE_lim {R : Nat → Orc} {K : Orc} (hR : Row R K) {o : AO} {g : Nat → AVal} {ρ : TLook} {out : TOut} (h : aoE K o g ρ = some out) : ∃ n,aoE (R n) o g ρ = some out:=by
 have hop : ∀ {site k},opT K site k g ρ = some out → ∃ n,opT (R n) site k g ρ = some out:=by
  intro site k h
  rcases opT_orc h with h' | ⟨f,args,os,r,h1,h2⟩
  ·exact ⟨0,h' _⟩
  ·obtain ⟨n,hn⟩:=hR.lim _ _ _ _ h1
   exact ⟨n,h2 _ hn⟩
 unfold aoE at h ⊢
 split at h
 ·exact hop h
 ·split at h
  ·split at h
   ·rename_i hb
    simp only [if_pos hb]
    exact hop h
   ·rename_i hb
    simp only [if_neg hb]
    exact ⟨0,h⟩
  ·exact ⟨0,h⟩
  ·cases h
theorem runOps_mono {K K' : Orc} (hk : OrcLe K K') : ∀ {l : List AO} {i : Nat} {s : St} {lg : Log} {r : St × Log},zad7 K i l s lg = some r → zad7 K' i l s lg = some r
 | [],i,s,lg,r,h => h
 | o :: l,i,s,lg,r,h => by
  simp only [zad7] at h ⊢
  split at h
  ·cases h
  ·rename_i out ho
   rw [aoE_mono hk ho]
   exact runOps_mono hk h
theorem runOps_lim {R : Nat → Orc} {K : Orc} (hR : Row R K) : ∀ {l : List AO} {i : Nat} {s : St} {lg : Log} {r : St × Log},zad7 K i l s lg = some r → ∃ n,zad7 (R n) i l s lg = some r
 | [],i,s,lg,r,h => ⟨0,h⟩
 | o :: l,i,s,lg,r,h => by
  simp only [zad7] at h ⊢
  split at h
  ·cases h
  ·rename_i out ho
   obtain ⟨n1,h1⟩:=aoE_lim hR ho
   obtain ⟨n2,h2⟩:=runOps_lim hR h
   refine ⟨max n1 n2,?_⟩
   rw [aoE_mono (hR.mono n1 (max n1 n2) (Nat.le_max_left _ _)) h1]
   exact runOps_mono (hR.mono n2 (max n1 n2) (Nat.le_max_right _ _)) h2
theorem runReg_mono {K K' : Orc} (hk : OrcLe K K') {r : AReg} {s s' : St} (h : runReg K r s = some s') : runReg K' r s = some s':=by
 unfold runReg at h ⊢
 split at h
 ·cases h
 ·split at h
  ·cases h
  ·rename_i s1 lg hr
   rw [runOps_mono hk hr]
   exact h
theorem runReg_lim {R : Nat → Orc} {K : Orc} (hR : Row R K) {r : AReg} {s s' : St} (h : runReg K r s = some s') : ∃ n,runReg (R n) r s = some s':=by
 unfold runReg at h ⊢
 split at h
 ·cases h
 ·split at h
  ·cases h
  ·rename_i s1 lg hr
   obtain ⟨n,hn⟩:=runOps_lim hR hr
   exact ⟨n,by simp only [hn]; exact h⟩
theorem iter_succ {body : St → Option (AEx × St)} : ∀ {n : Nat} {s : St} {r : AEx × St},iter body n s = some r → iter body (n + 1) s = some r
 | 0,s,r,h => by simp [iter] at h
 | n + 1,s,r,h => by
  rw [iter] at h ⊢
  split at h
  ·cases h
  ·exact iter_succ h
  ·exact h
theorem iter_le {body : St → Option (AEx × St)} {n m : Nat} (h : n ≤ m) {s : St} {r : AEx × St} (hr : iter body n s = some r) : iter body m s = some r:=by
 induction h with
 | refl => exact hr
 | step _ ih => exact iter_succ ih
theorem loopLim_iff {body : St → Option (AEx × St)} {s : St} {r : AEx × St} : zva7 body s = some r ↔ ∃ n,iter body n s = some r:=by
 constructor
 ·intro h
  unfold zva7 at h
  split at h
  ·rename_i hex
   have:=Classical.choose_spec hex
   simp only [Option.some.injEq] at h
   rw [h] at this
   exact this
  ·cases h
 ·rintro ⟨n,hn⟩
  unfold zva7
  have hex : ∃ r,∃ n,iter body n s = some r:=⟨r,n,hn⟩
  rw [dif_pos hex]
  obtain ⟨m,hm⟩:=Classical.choose_spec hex
  have h1:=iter_le (Nat.le_max_left n m) hn
  have h2:=iter_le (Nat.le_max_right n m) hm
  rw [h1] at h2
  exact h2.symm
theorem iter_mono {b b' : St → Option (AEx × St)} (hb : ∀ s r,b s = some r → b' s = some r) : ∀ {n : Nat} {s : St} {r : AEx × St},iter b n s = some r → iter b' n s = some r
 | 0,s,r,h => by simp [iter] at h
 | n + 1,s,r,h => by
  simp only [iter] at h ⊢
  split at h
  ·cases h
  ·rename_i s' h1
   rw [hb _ _ h1]
   exact iter_mono hb h
  ·rename_i p hne h1
   rw [hb _ _ h1]
   simp only [Option.some.injEq] at h
   rw [← h]
   obtain ⟨x,s'⟩:=p
   cases x with
   | normal => exact (hne s' rfl).elim
   | exit id => rfl
   | ret => rfl
theorem exec_rf {K : Orc} {x : AX} {k site : Nat} {caps : List Nat} {s : St} {r : AEx × St} (h : exec K (.rf x k site caps) s = some r) :
  ∃ f args os q,K f args os = some q ∧ ∀ K' : Orc,K' f args os = some q → exec K' (.rf x k site caps) s = some r:=by
 simp only [exec,rfE] at h
 split at h
 ·rename_i f vs hf
  split at h
  ·cases h
  ·rename_i hne
   split at h
   ·cases h
   ·rename_i hlid
    split at h
    ·cases h
    ·rename_i v us hcall
     obtain ⟨a,os,q,h1,h2⟩:=callE_orc hcall
     refine ⟨f,a,os,q,h1,fun K' hK' => ?_⟩
     have:=h2 K' hK'
     simp only [exec,rfE,hf,if_neg hne,hlid,this]
     exact h
 ·cases h
theorem zvc7 {K K' : Orc} (hk : OrcLe K K') : ∀ {c : AC} {s : St} {r : AEx × St},exec K c s = some r → exec K' c s = some r:=by
 intro c
 induction c with
 | skip => intro s r h; exact h
 | reg rg =>
  intro s r h
  simp only [exec] at h ⊢
  split at h
  ·rename_i s1 h1
   rw [runReg_mono hk h1]
   exact h
  ·cases h
 | seq a b iha ihb =>
  intro s r h
  simp only [exec] at h ⊢
  split at h
  ·rename_i s1 h1
   rw [iha h1]
   exact ihb h
  ·rename_i hne
   rw [iha h]
   obtain ⟨x,s'⟩:=r
   cases x with
   | normal => exact absurd h (hne s')
   | exit id => rfl
   | ret => rfl
 | cond x a b iha ihb =>
  intro s r h
  simp only [exec] at h ⊢
  split at h
  ·rename_i t ht
   cases t with
   | true => exact iha h
   | false => exact ihb h
  ·cases h
 | block id c ih =>
  intro s r h
  simp only [exec] at h ⊢
  split at h
  ·rename_i id' s1 h1
   rw [ih h1]
   exact h
  ·rename_i hne
   rw [ih h]
   obtain ⟨x,s'⟩:=r
   cases x with
   | normal => rfl
   | exit id' => exact absurd h (hne id' s')
   | ret => rfl
 | loop c ih =>
  intro s r h
  simp only [exec] at h ⊢
  rw [loopLim_iff] at h ⊢
  obtain ⟨n,hn⟩:=h
  exact ⟨n,iter_mono (fun s r h => ih h) hn⟩
 | exit id => intro s r h; exact h
 | ret => intro s r h; exact h
 | rf x k site caps =>
  intro s r h
  obtain ⟨f,args,os,q,h1,h2⟩:=exec_rf h
  exact h2 K' (hk _ _ _ _ h1)
theorem exec_lim {R : Nat → Orc} {K : Orc} (hR : Row R K) : ∀ {c : AC} {s : St} {r : AEx × St},exec K c s = some r → ∃ n,exec (R n) c s = some r:=by
 intro c
 induction c with
 | skip => intro s r h; exact ⟨0,h⟩
 | reg rg =>
  intro s r h
  simp only [exec] at h ⊢
  split at h
  ·rename_i s1 h1
   obtain ⟨n,hn⟩:=runReg_lim hR h1
   exact ⟨n,by rw [hn]; exact h⟩
  ·cases h
 | seq a b iha ihb =>
  intro s r h
  simp only [exec] at h ⊢
  split at h
  ·rename_i s1 h1
   obtain ⟨n1,e1⟩:=iha h1
   obtain ⟨n2,e2⟩:=ihb h
   refine ⟨max n1 n2,?_⟩
   rw [zvc7 (hR.mono n1 (max n1 n2) (Nat.le_max_left _ _)) e1]
   exact zvc7 (hR.mono n2 (max n1 n2) (Nat.le_max_right _ _)) e2
  ·rename_i hne
   obtain ⟨n1,e1⟩:=iha h
   refine ⟨n1,?_⟩
   rw [e1]
   obtain ⟨x,s'⟩:=r
   cases x with
   | normal => exact absurd h (hne s')
   | exit id => rfl
   | ret => rfl
 | cond x a b iha ihb =>
  intro s r h
  simp only [exec] at h ⊢
  split at h
  ·rename_i t ht
   cases t with
   | true => exact iha h
   | false => exact ihb h
  ·cases h
 | block id c ih =>
  intro s r h
  simp only [exec] at h ⊢
  split at h
  ·rename_i id' s1 h1
   obtain ⟨n1,e1⟩:=ih h1
   exact ⟨n1,by rw [e1]; exact h⟩
  ·rename_i hne
   obtain ⟨n1,e1⟩:=ih h
   refine ⟨n1,?_⟩
   rw [e1]
   obtain ⟨x,s'⟩:=r
   cases x with
   | normal => rfl
   | exit id' => exact absurd h (hne id' s')
   | ret => rfl
 | loop c ih =>
  intro s r h
  simp only [exec] at h
  rw [loopLim_iff] at h
  obtain ⟨n,hn⟩:=h
  have : ∃ m,iter (exec (R m) c) n s = some r:=by
   induction n generalizing s r with
   | zero => simp [iter] at hn
   | succ n ihn =>
    simp only [iter] at hn ⊢
    split at hn
    ·cases hn
    ·rename_i s' h1
     obtain ⟨m1,e1⟩:=ih h1
     obtain ⟨m2,e2⟩:=ihn hn
     refine ⟨max m1 m2,?_⟩
     rw [zvc7 (hR.mono m1 (max m1 m2) (Nat.le_max_left _ _)) e1]
     exact iter_mono (fun s r h => zvc7 (hR.mono m2 (max m1 m2) (Nat.le_max_right _ _)) h) e2
    ·rename_i p hne h1
     obtain ⟨m1,e1⟩:=ih h1
     refine ⟨m1,?_⟩
     rw [e1]
     simp only [Option.some.injEq] at hn
     rw [← hn]
     obtain ⟨x,s'⟩:=p
     cases x with
     | normal => exact (hne s' rfl).elim
     | exit id => rfl
     | ret => rfl
  obtain ⟨m,hm⟩:=this
  exact ⟨m,by simp only [exec]; exact loopLim_iff.2 ⟨n,hm⟩⟩
 | exit id => intro s r h; exact ⟨0,h⟩
 | ret => intro s r h; exact ⟨0,h⟩
 | rf x k site caps =>
  intro s r h
  obtain ⟨f,args,os,q,h1,h2⟩:=exec_rf h
  obtain ⟨n,hn⟩:=hR.lim _ _ _ _ h1
  exact ⟨n,h2 _ hn⟩
theorem zdd7 {K K' : Orc} (hk : OrcLe K K') {fn : AFun} {args : List AVal} {os : List TObj} {r : AVal × List TObj} (h : zkd7 K fn args os = some r) : zkd7 K' fn args os = some r:=by
 unfold zkd7 at h ⊢
 split at h
 ·rename_i hl
  rw [if_pos hl]
  split at h
  ·rename_i s hs
   rw [zvc7 hk hs]
   exact h
  ·rename_i s hs
   rw [zvc7 hk hs]
   exact h
  ·cases h
 ·cases h
theorem runFun_lim {R : Nat → Orc} {K : Orc} (hR : Row R K) {fn : AFun} {args : List AVal} {os : List TObj} {r : AVal × List TObj} (h : zkd7 K fn args os = some r) : ∃ n,zkd7 (R n) fn args os = some r:=by
 unfold zkd7 at h ⊢
 split at h
 ·rename_i hl
  simp only [if_pos hl]
  split at h
  ·rename_i s hs
   obtain ⟨n,hn⟩:=exec_lim hR hs
   exact ⟨n,by rw [hn]; exact h⟩
  ·rename_i s hs
   obtain ⟨n,hn⟩:=exec_lim hR hs
   exact ⟨n,by rw [hn]; exact h⟩
  ·cases h
 ·cases h
theorem runS_mono {K K' : Orc} (hk : OrcLe K K') {fn : AFun} {args : List AVal} {os : List TObj} {r : AVal × List TObj} (h : runS K fn args os = some r) : runS K' fn args os = some r:=by
 unfold runS at h ⊢
 split at h
 ·exact zdd7 hk h
 ·split at h
  ·rename_i he
   rw [if_pos he]
   split at h
   ·rename_i r1 r2 h1 h2
    rw [zdd7 hk h1,zdd7 hk h2]
    exact h
   ·cases h
  ·rename_i he
   rw [if_neg he]
   exact zdd7 hk h
theorem runS_lim {R : Nat → Orc} {K : Orc} (hR : Row R K) {fn : AFun} {args : List AVal} {os : List TObj} {r : AVal × List TObj} (h : runS K fn args os = some r) : ∃ n,runS (R n) fn args os = some r:=by
 unfold runS at h ⊢
 split at h
 ·exact runFun_lim hR h
 ·split at h
  ·rename_i he
   simp only [if_pos he]
   split at h
   ·rename_i r1 r2 h1 h2
    obtain ⟨n1,e1⟩:=runFun_lim hR h1
    obtain ⟨n2,e2⟩:=runFun_lim hR h2
    refine ⟨max n1 n2,?_⟩
    rw [zdd7 (hR.mono n1 (max n1 n2) (Nat.le_max_left _ _)) e1,zdd7 (hR.mono n2 (max n1 n2) (Nat.le_max_right _ _)) e2]
    exact h
   ·cases h
  ·rename_i he
   simp only [if_neg he]
   exact runFun_lim hR h
theorem yieldE_mono {K K' : Orc} (hk : OrcLe K K') {lps : Nat → Option ALoop} {args : List AVal} {os : List TObj} {r : AVal × List TObj} (h : yieldE K lps args os = some r) : yieldE K' lps args os = some r:=by
 unfold yieldE yieldG at h ⊢
 split at h
 ·split at h
  ·split at h
   ·split at h
    ·rename_i hl
     rw [if_pos hl]
     split at h
     ·rename_i s1 h1
      rw [zvc7 hk h1]
      simp only
      split at h
      ·split at h
       ·rename_i e s2 h2
        rw [zvc7 hk h2]
        exact h
       ·cases h
      ·cases h
     ·cases h
    ·cases h
   ·cases h
  ·cases h
 ·cases h
theorem yieldE_lim {R : Nat → Orc} {K : Orc} (hR : Row R K) {lps : Nat → Option ALoop} {args : List AVal} {os : List TObj} {r : AVal × List TObj} (h : yieldE K lps args os = some r) : ∃ n,yieldE (R n) lps args os = some r:=by
 unfold yieldE yieldG at h
 split at h
 ·rename_i j hlast
  split at h
  ·rename_i k env hj
   split at h
   ·rename_i lp hlp
    split at h
    ·rename_i hl
     split at h
     ·rename_i s1 h1
      split at h
      ·rename_i k1 env1 ho1
       split at h
       ·rename_i e s2 h2
        obtain ⟨n1,e1⟩:=exec_lim hR h1
        obtain ⟨n2,e2⟩:=exec_lim hR h2
        refine ⟨max n1 n2,?_⟩
        unfold yieldE yieldG
        simp only [hlast,hj,hlp,if_pos hl,zvc7 (hR.mono n1 (max n1 n2) (Nat.le_max_left _ _)) e1,ho1,zvc7 (hR.mono n2 (max n1 n2) (Nat.le_max_right _ _)) e2]
        exact h
       ·cases h
      ·cases h
     ·cases h
    ·cases h
   ·cases h
  ·cases h
 ·cases h
section
variable {tbl : Tab}
theorem kn_succ : ∀ n,OrcLe (Kn tbl n) (Kn tbl (n + 1))
 | 0 => fun f args os r h => by simp [Kn] at h
 | n + 1 => fun f args os r h => by
  rw [Kn] at h ⊢
  simp only at h ⊢
  split at h
  ·rename_i e
   rw [if_pos e]
   exact yieldE_mono (kn_succ n) h
  ·rename_i hne
   rw [if_neg hne]
   split at h
   ·exact runS_mono (kn_succ n) h
   ·exact h
theorem kn_le {n m : Nat} (h : n ≤ m) : OrcLe (Kn tbl n) (Kn tbl m):=by
 induction h with
 | refl => exact fun _ _ _ _ h => h
 | step _ ih => exact fun f args os r h => kn_succ _ f args os r (ih f args os r h)
theorem callT_iff {f : FuncId} {args : List AVal} {os : List TObj} {r : AVal × List TObj} : callT tbl f args os = some r ↔ ∃ n,Kn tbl n f args os = some r:=by
 constructor
 ·intro h
  unfold callT at h
  split at h
  ·rename_i hex
   have:=Classical.choose_spec hex
   simp only [Option.some.injEq] at h
   rw [h] at this
   exact this
  ·cases h
 ·rintro ⟨n,hn⟩
  unfold callT
  have hex : ∃ r,∃ n,Kn tbl n f args os = some r:=⟨r,n,hn⟩
  rw [dif_pos hex]
  obtain ⟨m,hm⟩:=Classical.choose_spec hex
  have h1:=kn_le (Nat.le_max_left n m) _ _ _ _ hn
  have h2:=kn_le (Nat.le_max_right n m) _ _ _ _ hm
  rw [h1] at h2
  exact h2.symm
theorem row_kn : Row (Kn tbl) (callT tbl):=⟨fun _ _ h => kn_le h,fun _ _ _ _ h => callT_iff.1 h⟩
theorem callT_of {f : FuncId} {fn : AFun} (hf : tbl.fn f = some fn) {args : List AVal} {os : List TObj} {r : AVal × List TObj} (h : runS (callT tbl) fn args os = some r) (hne : f ≠ YID:=by decide) : callT tbl f args os = some r:=by
 obtain ⟨n,hn⟩:=runS_lim row_kn h
 exact callT_iff.2 ⟨n + 1,by rw [Kn]; simp only [if_neg hne,hf]; exact hn⟩
theorem callT_yield {args : List AVal} {os : List TObj} {r : AVal × List TObj} (h : yieldE (callT tbl) tbl.lp args os = some r) : callT tbl YID args os = some r:=by
 obtain ⟨n,hn⟩:=yieldE_lim row_kn h
 exact callT_iff.2 ⟨n + 1,by rw [Kn]; simp only [if_true]; exact hn⟩
theorem loop_next {body : St → Option (AEx × St)} {s s' : St} {r : AEx × St} (h : body s = some (.normal,s')) (hr : zva7 body s' = some r) : zva7 body s = some r:=by
 rw [loopLim_iff] at hr ⊢
 obtain ⟨n,hn⟩:=hr
 exact ⟨n + 1,by simp only [iter,h]; exact hn⟩
theorem loop_done {body : St → Option (AEx × St)} {s s' : St} {x : AEx} (h : body s = some (x,s')) (hx : x ≠ .normal) : zva7 body s = some (x,s'):=by
 rw [loopLim_iff]
 refine ⟨1,?_⟩
 simp only [iter,h]
 cases x with
 | normal => exact absurd rfl hx
 | exit id => rfl
 | ret => rfl
end
end Go.Am

namespace Go.Am
variable [Glob]
def execF (K : Orc) (m : Nat) : AC → St → Option (AEx × St)
 | .skip,s => some (.normal,s)
 | .reg r,s => match runReg K r s with
  | some s => some (.normal,s)
  | none => none
 | .seq a b,s =>
  match execF K m a s with
  | some (.normal,s') => execF K m b s'
  | r => r
 | .cond x a b,s =>
  match evX (gE s.env) x with
  | .dat (.bool t) => if t then execF K m a s else execF K m b s
  | _ => none
 | .block id c,s =>
  match execF K m c s with
  | some (.exit id',s') => if id' = id then some (.normal,s') else some (.exit id',s')
  | r => r
 | .loop c,s => iter (execF K m c) m s
 | .exit id,s => some (.exit id,s)
 | .ret,s => some (.ret,s)
 | .rf x k site caps,s => rfE K x k site caps s
theorem execF_exec {K : Orc} {m : Nat} : ∀ {c : AC} {s : St} {r : AEx × St},execF K m c s = some r → exec K c s = some r:=by
 intro c
 induction c with
 | skip => intro s r h; exact h
 | reg _ => intro s r h; exact h
 | seq a b iha ihb =>
  intro s r h
  simp only [execF] at h
  simp only [exec]
  cases ha : execF K m a s with
  | none => rw [ha] at h; cases h
  | some p =>
   rw [ha] at h
   rw [iha ha]
   obtain ⟨x,s'⟩:=p
   cases x with
   | normal => exact ihb h
   | exit id => exact h
   | ret => exact h
 | cond x a b iha ihb =>
  intro s r h
  simp only [execF] at h
  simp only [exec]
  split at h
  ·rename_i t ht
   simp only [ht]
   cases t with
   | true => exact iha h
   | false => exact ihb h
  ·cases h
 | block id c ih =>
  intro s r h
  simp only [execF] at h
  simp only [exec]
  cases ha : execF K m c s with
  | none => rw [ha] at h; cases h
  | some p =>
   rw [ha] at h
   rw [ih ha]
   exact h
 | loop c ih =>
  intro s r h
  simp only [execF] at h
  simp only [exec]
  exact loopLim_iff.2 ⟨m,iter_mono (fun s r h => ih h) h⟩
 | exit _ => intro s r h; exact h
 | ret => intro s r h; exact h
 | rf _ _ _ _ => intro s r h; exact h
def runF (K : Orc) (m : Nat) (fn : AFun) (args : List AVal) (os : List TObj) : Option (AVal × List TObj) :=
 if args.length = fn.np then
  match execF K m fn.code (enter args os) with
  | some (.normal,s) => retE fn os.length s
  | some (.ret,s) => retE fn os.length s
  | _ => none
 else none
theorem runF_run {K : Orc} {m : Nat} {fn : AFun} {args : List AVal} {os : List TObj} {r : AVal × List TObj} (h : runF K m fn args os = some r) : zkd7 K fn args os = some r:=by
 simp only [runF] at h
 simp only [zkd7]
 split at h
 ·rename_i hl
  rw [if_pos hl]
  cases he : execF K m fn.code (enter args os) with
  | none => rw [he] at h; cases h
  | some p =>
   rw [he] at h
   rw [execF_exec he]
   exact h
 ·cases h
mutual
def Dat.same : Dat → Dat → Bool
 | .int k a,.int k' b => k == k' && a == b
 | .bool a,.bool b => a == b
 | .str a,.str b => a == b
 | .sl a,.sl b => Dat.sameL a b
 | .agg a,.agg b => Dat.sameL a b
 | _,_ => false
def Dat.sameL : List Dat → List Dat → Bool
 | [],[] => true
 | a :: r,b :: s => Dat.same a b && Dat.sameL r s
 | _,_ => false
end
mutual
theorem Dat.same_eq : ∀ {a b : Dat},Dat.same a b = true → a = b
 | .int k a,.int k' b,h => by simp [Dat.same] at h; rw [h.1,h.2]
 | .bool a,.bool b,h => by simp [Dat.same] at h; rw [h]
 | .str a,.str b,h => by simp [Dat.same] at h; rw [h]
 | .sl a,.sl b,h => by simp only [Dat.same] at h; rw [Dat.sameL_eq h]
 | .agg a,.agg b,h => by simp only [Dat.same] at h; rw [Dat.sameL_eq h]
 | .int _ _,.bool _,h => by simp [Dat.same] at h
 | .int _ _,.str _,h => by simp [Dat.same] at h
 | .int _ _,.sl _,h => by simp [Dat.same] at h
 | .int _ _,.agg _,h => by simp [Dat.same] at h
 | .bool _,.int _ _,h => by simp [Dat.same] at h
 | .bool _,.str _,h => by simp [Dat.same] at h
 | .bool _,.sl _,h => by simp [Dat.same] at h
 | .bool _,.agg _,h => by simp [Dat.same] at h
 | .str _,.int _ _,h => by simp [Dat.same] at h
 | .str _,.bool _,h => by simp [Dat.same] at h
 | .str _,.sl _,h => by simp [Dat.same] at h
 | .str _,.agg _,h => by simp [Dat.same] at h
 | .sl _,.int _ _,h => by simp [Dat.same] at h
 | .sl _,.bool _,h => by simp [Dat.same] at h
 | .sl _,.str _,h => by simp [Dat.same] at h
 | .sl _,.agg _,h => by simp [Dat.same] at h
 | .agg _,.int _ _,h => by simp [Dat.same] at h
 | .agg _,.bool _,h => by simp [Dat.same] at h
 | .agg _,.str _,h => by simp [Dat.same] at h
 | .agg _,.sl _,h => by simp [Dat.same] at h
theorem Dat.sameL_eq : ∀ {a b : List Dat},Dat.sameL a b = true → a = b
 | [],[],_ => rfl
 | a :: r,b :: s,h => by simp only [Dat.sameL,Bool.and_eq_true] at h; rw [Dat.same_eq h.1,Dat.sameL_eq h.2]
 | [],_ :: _,h => by simp [Dat.sameL] at h
 | _ :: _,[],h => by simp [Dat.sameL] at h
end
def sameR : Option (AVal × List TObj) → Option (AVal × List TObj) → Option (AVal × List TObj)
 | some (.dat a,[]),some (.dat b,[]) => if Dat.same a b then some (.dat a,[]) else none
 | some (.nils,a),some (.cap0,b) => if sameAll TObj.same a b then some (.cap0,a) else none
 | some (.cap0,a),some (.nils,b) => if sameAll TObj.same a b then some (.cap0,a) else none
 | some (.rsl i v sz o l,[.plain (.arr a b c [])]),some (.rsl i' v' sz' o' l',[.plain (.arr a' b' c' [])]) =>
  if i = i' ∧ v = v' ∧ sz = sz' ∧ o = o' ∧ l = l' ∧ a = a' ∧ b = b' ∧ c = c' then some (.rsl i v sz o l,[.plain (.arr a b c [])]) else none
 | _,_ => none
def runSF (K : Orc) (m : Nat) (fn : AFun) (args : List AVal) (os : List TObj) : Option (AVal × List TObj) :=
 match fn.split with
 | none => runF K m fn args os
 | some i => if isEmp args[i]? then sameR (runF K m fn (args.set i (.emp true)) os) (runF K m fn (args.set i (.emp false)) os) else runF K m fn args os
theorem sameR_eq {x y : Option (AVal × List TObj)} {r : AVal × List TObj} (h : sameR x y = some r) : (x = some r ∧ y = some r) ∨ ∃ a b,x = some a ∧ y = some b ∧ a ≠ b ∧ joinR a b = some r:=by
 unfold sameR at h
 split at h
 ·split at h
  ·rename_i hs
   cases h
   rw [Dat.same_eq hs]
   exact .inl ⟨rfl,rfl⟩
  ·cases h
 ·split at h
  ·rename_i hs
   cases h
   have:=sameAll_eq TObj.same_eq _ _ hs
   subst this
   exact .inr ⟨_,_,rfl,rfl,by simp,by simp [joinR]⟩
  ·cases h
 ·split at h
  ·rename_i hs
   cases h
   have:=sameAll_eq TObj.same_eq _ _ hs
   subst this
   exact .inr ⟨_,_,rfl,rfl,by simp,by simp [joinR]⟩
  ·cases h
 ·split at h
  ·rename_i hc
   obtain ⟨rfl,rfl,rfl,rfl,rfl,rfl,rfl,rfl⟩:=hc
   cases h
   exact .inl ⟨rfl,rfl⟩
  ·cases h
 ·cases h
theorem runSF_run {K : Orc} {m : Nat} {fn : AFun} {args : List AVal} {os : List TObj} {r : AVal × List TObj} (h : runSF K m fn args os = some r) : runS K fn args os = some r:=by
 simp only [runSF] at h
 simp only [runS]
 split at h
 ·rename_i hi
  rw [hi]
  exact runF_run h
 ·rename_i i hi
  rw [hi]
  dsimp only
  by_cases he : isEmp args[i]? = true
  ·rw [if_pos he] at h ⊢
   have hj:=sameR_eq h
   rcases hj with ⟨h1,h2⟩ | ⟨a,b,h1,h2,h3,h4⟩
   ·simp only [runF_run h1,runF_run h2,if_true]
   ·simp only [runF_run h1,runF_run h2,if_neg h3,h4]
  ·rw [if_neg he] at h ⊢
   exact runF_run h
theorem yieldG_mono {ex ex' : AC → St → Option (AEx × St)} (hk : ∀ c s r,ex c s = some r → ex' c s = some r) {lps : Nat → Option ALoop} {args : List AVal} {os : List TObj} {r : AVal × List TObj} (h : yieldG ex lps args os = some r) : yieldG ex' lps args os = some r:=by
 unfold yieldG at h ⊢
 split at h
 ·split at h
  ·split at h
   ·split at h
    ·rename_i hl
     rw [if_pos hl]
     split at h
     ·rename_i s1 h1
      rw [hk _ _ _ h1]
      simp only
      split at h
      ·split at h
       ·rename_i e s2 h2
        rw [hk _ _ _ h2]
        exact h
       ·cases h
      ·cases h
     ·cases h
    ·cases h
   ·cases h
  ·cases h
 ·cases h
def Kf (tbl : Tab) (m : Nat) : Nat → Orc
 | 0 => fun _ _ _ => none
 | n + 1 => fun f args os => if f = YID then yieldG (execF (Kf tbl m n) m) tbl.lp args os else match tbl.fn f with
  | some fn => runSF (Kf tbl m n) m fn args os
  | none => tbl.law f args os
theorem Kf_kn {tbl : Tab} {m : Nat} : ∀ n,OrcLe (Kf tbl m n) (Kn tbl n)
 | 0 => fun _ _ _ _ h => by cases h
 | n + 1 => fun f args os r h => by
  simp only [Kf] at h
  simp only [Kn]
  by_cases e : f = YID
  ·rw [if_pos e] at h ⊢
   exact yieldE_mono (Kf_kn n) (yieldG_mono (fun c s r h => execF_exec h) h)
  ·rw [if_neg e] at h ⊢
   cases hf : tbl.fn f with
   | none => rw [hf] at h; exact h
   | some fn => rw [hf] at h; exact runS_mono (Kf_kn n) (runSF_run h)
end Go.Am

namespace Go.Am
variable [Glob]
open Go.RowKit
def allF (W : World) : Froz:=fun b o => W.cell? ⟨b,o,none⟩
def ctx0 (W : World) : Ctx:={ w:=W,F:=allF W,μ:=fun _ => ⟨0,0,0⟩,ρ:=fun _ => none }
theorem ctx0_inv (W : World) : Inv (baseOf (ctx0 W)) (ctx0 W):=by
 refine ⟨fun id o h => ?_,fun id id' o o' h => ?_,fun id o h => ?_,fun id id' x x' h => ?_,fun id x h => ?_,KeptB.reflM (fun b ⟨id,x,h,_⟩ => by cases h),fun b o v h => h,fun _ _ _ h => h,fun _ _ _ h => .inl h⟩ <;> cases h
def GrownL (W w' : World) : Prop:=W.keptBut w' (fun _ => False) ∧ (∀ a,a.block < W.heap.size → w'.frozen? a = W.frozen? a) ∧ W.heap.size ≤ w'.heap.size
theorem top_calls {P : Program} {tbl : Tab} (ht : TblOK P tbl) {f : FuncId} {args : List AVal} {t : Bool} {os' : List TObj} (h : callT tbl f args [] = some (.dat (.bool t),os')) {W : World} {vals : Array Value}
  (hG : GlobOK (allF W)) (hr : RepL (ctx0 W) args vals.toList) : Calls P f vals W fun e W' => e = .returned (.bool t) ∧ GrownL W W':=by
 have hen : zkb7 P f = true ∧ CallOK P f args [] (.dat (.bool t)) os':=by
  rcases callT_sound ht f args [] _ _ h with ⟨_,q⟩ | ⟨_,_,q⟩
  ·exact q
  ·exfalso
   obtain ⟨n,hn⟩:=callT_iff.1 h
   cases n with
   | zero => simp [Kn] at hn
   | succ n =>
    rename_i e _
    rw [Kn] at hn
    simp only [if_pos e,yieldE,yieldG] at hn
    split at hn
    ·simp at hn
    ·cases hn
 have hc:=hen.2 (ctx0 W) vals (by funext id; simp [ctx0,flat,zub7]) hG (ctx0_inv W) hr
 refine hc.mono fun e W' ⟨val,C',h1,h2,_,h4,h5,_⟩ => ?_
 have hk:=h4.kept.kept (fun i _ hM => by
  obtain ⟨id,x,q,_⟩:=hM
  cases q)
 have hno : ∀ b x,¬ OwnSet (ctx0 W) b x:=by
  rintro b x ⟨id,ob,q,_⟩
  cases q
 refine ⟨by rw [h1,rep_bool h5],?_⟩
 rw [← h2]
 refine ⟨World.keptBut_mono (fun p hp => ?_) hk.but,hk.frozen,hk.size⟩
 obtain ⟨b,o,_,hT⟩:=hp
 exact hno b o hT
end Go.Am

namespace Go.Am
variable [Glob]
structure Ent where
 f : FuncId
 args : List Dat
 res : AVal
def resEq : AVal → AVal → Bool
 | .dat a,.dat b => Dat.eqv a b
 | .tup a,.tup b => sameAll AVal.same a b
 | _,_ => false
theorem resEq_eq {a b : AVal} (h : resEq a b = true) : a = b:=by
 unfold resEq at h
 split at h
 ·rw [Dat.eqv_eq _ _ h]
 ·rw [sameAll_eq AVal.same_eq _ _ h]
 ·cases h
def argsEq : List Dat → List AVal → Bool
 | [],l => l.isEmpty
 | d :: r,l => (match l with | .dat d' :: s => Dat.eqv d d' && argsEq r s | _ => false)
theorem argsEq_eq : ∀ {l : List Dat} {as : List AVal},argsEq l as = true → as = l.map .dat
 | [],as,h => by cases as <;> simp_all [argsEq]
 | d :: r,as,h => by
  unfold argsEq at h
  split at h
  ·rename_i d' s
   simp only [Bool.and_eq_true] at h
   rw [List.map_cons,Dat.eqv_eq _ _ h.1,argsEq_eq h.2]
  ·cases h
def findM : List Ent → FuncId → List AVal → Option AVal
 | [],_,_ => none
 | e :: r,f,args => if e.f = f ∧ argsEq e.args args = true then some e.res else findM r f args
def memoL (l : List Ent) (base : Orc) : Orc:=fun f args os =>
 match os with
 | [] => match findM l f args with
  | some r => some (r,[])
  | none => base f args []
 | os => base f args os
def EntOK (P : Program) (e : Ent) : Prop:=e.f ≠ YID ∧ zkb7 P e.f = true ∧ CallOK P e.f (e.args.map .dat) [] e.res []
theorem findM_mem : ∀ {l : List Ent} {f : FuncId} {args : List AVal} {r : AVal},findM l f args = some r → ∃ e ∈ l,e.f = f ∧ args = e.args.map .dat ∧ r = e.res
 | [],f,args,r,h => by cases h
 | e :: l,f,args,r,h => by
  simp only [findM] at h
  split at h
  ·rename_i hc
   cases h
   exact ⟨e,by simp,hc.1,argsEq_eq hc.2,rfl⟩
  ·obtain ⟨e',h1,h2⟩:=findM_mem h
   exact ⟨e',by simp [h1],h2⟩
theorem memoL_ok {P : Program} {l : List Ent} {base : Orc} (hl : ∀ e ∈ l,EntOK P e) (hb : zbe7 P base) : zbe7 P (memoL l base):=by
 intro f args os v os' h
 unfold memoL at h
 split at h
 ·split at h
  ·rename_i r hr
   cases h
   obtain ⟨e,h1,rfl,rfl,rfl⟩:=findM_mem hr
   exact .inl (hl e h1)
  ·exact hb f args [] v os' h
 ·exact hb _ _ _ _ _ h
def zld7 (K : Orc) (m : Nat) (tf : FuncId → Option AFun) (e : Ent) : Bool :=
 match tf e.f with
 | some fn => match runSF K m fn (e.args.map .dat) [] with
  | some (v,[]) => resEq v e.res
  | _ => false
 | none => false
theorem check_ok {P : Program} {T : Tab} (hT : TblOK P T) {m n : Nat} {tf : FuncId → Option AFun} (htf : ∀ f fn,tf f = some fn → ∃ an keep g,cFun P an keep f = some g ∧ fn = { g with split:=fn.split }) (hy : tf YID = none)
  {e : Ent} (h : zld7 (Kf T m n) m tf e = true) : EntOK P e:=by
 unfold zld7 at h
 split at h
 ·rename_i fn hf
  split at h
  ·rename_i v hr
   have hv:=resEq_eq h
   subst hv
   obtain ⟨an,keep,g,hc,he⟩:=htf _ _ hf
   refine ⟨fun e' => (by rw [e',hy] at hf; cases hf),?_⟩
   exact split_sound (kn_sound hT n) hT.loops hc he (runS_mono (Kf_kn n) (runSF_run hr))
  ·cases h
 ·cases h
theorem zab7 {P : Program} {T : Tab} (hT : TblOK P T) {m n : Nat} {tf : FuncId → Option AFun} (htf : ∀ f fn,tf f = some fn → ∃ an keep g,cFun P an keep f = some g ∧ fn = { g with split:=fn.split }) (hy : tf YID = none)
  {l : List Ent} (h : l.all (zld7 (Kf T m n) m tf) = true) : ∀ e ∈ l,EntOK P e:=fun e he => check_ok hT htf hy (List.all_eq_true.1 h e he)
theorem TblOK.memo {P : Program} {T : Tab} (hT : TblOK P T) {l : List Ent} (hl : ∀ e ∈ l,EntOK P e) : TblOK P { T with law:=memoL l T.law } :=
 ⟨hT.fn,memoL_ok hl hT.law,hT.lp,hT.loops,hT.yid⟩
end Go.Am
