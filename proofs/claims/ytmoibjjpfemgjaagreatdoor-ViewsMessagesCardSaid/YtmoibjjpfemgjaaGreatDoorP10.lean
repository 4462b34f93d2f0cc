/- Parts of the proofs of the statement, joined and made short: AmSound AmT1. -/
import Derived.Test.YtmoibjjpfemgjaaGreatDoorP9
import Derived.Test.YtmoibjjpfemgjaaGreatDoorP3
set_option linter.unusedVariables false
set_option linter.unusedSimpArgs false
set_option linter.unusedSectionVars false
namespace Go.Am
variable [Glob]
section
variable {P:Program} {o:Oper} {a:Act} {B:Base} {C:Ctx} {g:Nat→AVal} {site:Nat} {m:Mk} {k:AK} {v:AVal} {upd:List (Id×Obj)}
theorem zda7 {α β:Type} {x:Option α} {f:α→β} {y:β} (h:x.map f=some y):∃z,x=some z∧f z=y:=by
 cases x with
 |none=>cases h
 |some z=>exact⟨z,rfl,by simpa using h⟩
theorem ztb7 {x:Option AVal} (h:x.map (·,([]:List (Id×Obj)))=some (v,upd)):x=some v∧upd=[]:=by
 obtain⟨z,hz,he⟩:=zda7 h;simp only[Prod.mk.injEq]at he;exact⟨by rw[hz,he.1],he.2.symm⟩
theorem zok_spec {q:TI} (h:q.zok=true):(∃l,q.zero=some l∧l.length=q.size)∧1≤q.size:=by
 unfold TI.zok at h;split at h
 ·rename_i l hl;simp only[Bool.and_eq_true,beq_iff_eq,decide_eq_true_eq]at h;exact⟨⟨l,hl,h.1⟩,h.2⟩
 ·cases h
theorem elemT_spec {t e:TypeId} (h:elemT P t=some e):P.underlying t=some (.slice e):=by
 unfold elemT at h;split at h
 ·rename_i e' he;simp only[Option.some.injEq]at h;subst h;exact he
 ·cases h
theorem bind_elem {t:TypeId} {q:TI} (h:(elemT P t).bind (tI P)=some q):∃e,P.underlying t=some (.slice e)∧tI P e=some q:=by
 cases e:elemT P t with
 |none=>simp[e]at h
 |some e'=>rw[e]at h;exact⟨e',elemT_spec e,h⟩
theorem zge7 {t:Option TypeId} {q:TI} (h:(t.bind (elemT P)).bind (tI P)=some q):∃s e,t=some s∧P.underlying s=some (.slice e)∧tI P e=some q:=by
 cases t with
 |none=>simp at h
 |some s=>
  obtain⟨e,h1,h2⟩:=bind_elem (t:=s) (by simpa using h);exact⟨s,e,rfl,h1,h2⟩
theorem cXs_one {xs:Array Operand} {ax:AX} (h:cXs xs=some [ax]):∃x,xs=#[x]∧cX x=some ax:=by
 have:=zic7 h;have hl:=congrArg List.length this;simp at hl;cases xs with
 |mk l=>
  match l,hl with
  |[x],_=>exact⟨x,rfl,by simpa using this⟩
theorem cXs_two {xs:Array Operand} {ax ay:AX} (h:cXs xs=some [ax,ay]):∃x y,xs=#[x,y]∧cX x=some ax∧cX y=some ay:=by
 have:=zic7 h;have hl:=congrArg List.length this;simp at hl;cases xs with
 |mk l=>
  match l,hl with
  |[x,y],_=>exact⟨x,y,rfl,by simpa using this⟩
theorem snd_mv (hI:Inv B C) (hE:RepE C g a) {x:Operand} (hop:o.op=.move x∨o.op=.assign x)
  (hc:cOp P m o=some k) (h:opE site k g C.ρ=some (v,upd)):Does P o a C.w (Owes B C v upd):=by
 have hc':(if m.md=.d then (cX x).map .mv else
   match x with
   |.const (.slice none 0 0)=>match (elemT P o.type).bind (tI P) with
    |some i=>if 1≤i.size then some (AK.mvNil m.md i.size) else none
    |none=>none
   |_=>none)=some k:=by
  rcases hop with hop|hop<;>simp only[cOp,hop]at hc<;>rw[←hc]<;>rfl
 replace hc:=hc'
 split at hc
 ·obtain⟨ax,hx,rfl⟩:=zda7 hc;simp only[opE,Option.some.injEq,Prod.mk.injEq]at h;obtain⟨rfl,rfl⟩:=h;exact op_mv hI hE hop hx
 ·split at hc
  ·split at hc
   ·rename_i i hi;split at hc
    ·rename_i hsz;simp only[Option.some.injEq]at hc;subst hc;simp only[opE]at h;split at h
     ·cases h
     ·rename_i nv hnv;cases hmd:m.md<;>simp only[hmd]at h
      ·cases h
      ·rw[if_pos hsz]at h;simp only[Option.some.injEq,Prod.mk.injEq]at h;obtain⟨rfl,rfl⟩:=h;exact op_mvNil hI hop hnv hsz (.inl rfl)
      ·rw[if_pos hsz]at h;simp only[Option.some.injEq,Prod.mk.injEq]at h;obtain⟨rfl,rfl⟩:=h;exact op_mvNil hI hop hnv hsz (.inr rfl)
      ·cases h
    ·cases hc
   ·cases hc
  ·cases hc
theorem snd_bldS (hI:Inv B C) (hE:RepE C g a) {t:TypeId} {n:Nat} {parts:Array (Nat×Operand)} (hop:o.op=.buildSlice t n parts) (hc:cOp P m o=some k) (h:opE site k g C.ρ=some (v,upd)):Does P o a C.w (Owes B C v upd):=by
 simp only[cOp,hop]at hc;split at hc
 ·rename_i i xs hi hxs;have hxs:cXs (parts.map (·.2))=some xs:=by rw[cXs,Array.toList_map];exact hxs
  split at hc
  ·rename_i hcond;obtain⟨c1,c2,c3,c4⟩:=hcond;simp only[Option.some.injEq]at hc;subst hc;obtain⟨e,e1,e2⟩:=bind_elem hi;simp only[opE]at h;cases hmd:m.md<;>simp only[hmd]at h
   ·split at h
    ·rename_i ds fs hds;split at h
     ·rename_i hw;simp only[Option.some.injEq,Prod.mk.injEq]at h;obtain⟨rfl,rfl⟩:=h;exact op_bldSd hI hE hop e1 e2 c4 hxs c1 c2 hds hw
     ·cases h
    ·cases h
   ·split at h
    ·rename_i ds fs hds;split at h
     ·rename_i hw;split at h
      ·rename_i nv hnv;split at h
       ·rename_i hh;simp only[Option.some.injEq,Prod.mk.injEq]at h;obtain⟨rfl,rfl⟩:=h;exact op_bldSo hI hE hop e1 e2 c3 c4 hxs c1 c2 hds hw hnv hh.2
       ·cases h
      ·cases h
     ·cases h
    ·cases h
   ·split at h
    ·rename_i hh;simp only[Option.some.injEq,Prod.mk.injEq]at h;obtain⟨rfl,rfl⟩:=h;exact op_bldSr hI hE hop e1 e2 c4 hxs c1 c2 hh.2
    ·cases h
   ·split at h
    ·rename_i hn0;simp only[Option.some.injEq,Prod.mk.injEq]at h;obtain⟨rfl,rfl⟩:=h;exact op_bldS0 hI hE hop e1 e2 c4 hxs c1 c2 (by simpa using hn0)
    ·split at h
     ·rename_i nv hnv;split at h
      ·rename_i hh;simp only[Option.some.injEq,Prod.mk.injEq]at h;obtain⟨rfl,rfl⟩:=h;exact op_bldSf hI hE hop e1 e2 c3 c4 hxs c1 c2 hh.2 hnv
      ·cases h
     ·cases h
  ·cases hc
 ·cases hc
theorem snd_mk (hI:Inv B C) (hE:RepE C g a) {t:TypeId} {l c:Operand} (hop:o.op=.makeSlice t l c) (hc:cOp P m o=some k) (h:opE site k g C.ρ=some (v,upd)):Does P o a C.w (Owes B C v upd):=by
 simp only[cOp,hop]at hc;split at hc
 ·rename_i i al ac hi hl hcc;obtain⟨zero,hz,rfl⟩:=zda7 hc;obtain⟨e,e1,e2⟩:=bind_elem hi;simp only[opE]at h;split at h
  ·rename_i ln cn hln hcn;split at h
   ·rename_i hb;cases hmd:m.md<;>simp only[hmd]at h
    ·split at h
     ·rename_i z hzd;split at h
      ·rename_i hw;simp only[Option.some.injEq,Prod.mk.injEq]at h;obtain⟨rfl,rfl⟩:=h;exact op_mkd hI hE hop hl hcc e1 e2 hz hln hcn hb hzd hw
      ·cases h
     ·cases h
    ·split at h
     ·rename_i z hzd;split at h
      ·rename_i hw;split at h
       ·cases h
       ·rename_i nv hnv;simp only[Option.some.injEq,Prod.mk.injEq]at h;obtain⟨rfl,rfl⟩:=h;exact op_mko hI hE hop hl hcc e1 e2 hz hln hcn hb hzd hw hnv
      ·cases h
     ·cases h
    ·split at h
     ·rename_i nv hnv;split at h
      ·rename_i hh;simp only[Option.some.injEq,Prod.mk.injEq]at h;obtain⟨rfl,rfl⟩:=h;exact op_mkr hI hE hop hl hcc e1 e2 hz hln hcn hb hh.1 hh.2.1 hnv
      ·cases h
     ·cases h
    ·split at h
     ·rename_i z hzd;split at h
      ·rename_i hw;split at h
       ·cases h
       ·rename_i nv hnv;simp only[Option.some.injEq,Prod.mk.injEq]at h;obtain⟨rfl,rfl⟩:=h;exact op_mko hI hE hop hl hcc e1 e2 hz hln hcn hb hzd hw hnv
      ·cases h
     ·cases h
   ·cases h
  ·cases h
 ·cases hc
theorem snd_app (hI:Inv B C) (hE:RepE C g a) {c:Call} {ax ay:AX} {q:TI} {md:Md} (hop:o.op=.call c) (hcal:c.callee=.builtin .append) (hargs:cXs c.args=some [ax,ay]) (hq:((c.argTypes[0]?).bind (elemT P)).bind (tI P)=some q)
  (hxt:(∃e',(c.argTypes[1]?).bind P.underlying=some (.slice e'))∨(c.argTypes[1]?).bind P.underlying=some .string) (hz:q.zok=true)
  (h:opE site (.app md q.size q.bytes ax ay) g C.ρ=some (v,upd)):Does P o a C.w (Owes B C v upd):=by
 obtain⟨x,y,ha,hx,hy⟩:=cXs_two hargs;obtain⟨sT,e,h0,hs,hqe⟩:=zge7 hq;obtain⟨hzl,hsz⟩:=zok_spec hz
 obtain⟨xT,h1,hxT⟩:∃xT,c.argTypes[1]?=some xT∧((∃e',P.underlying xT=some (.slice e'))∨P.underlying xT=some .string):=by
  cases e1:c.argTypes[1]? with
  |none=>simp[e1]at hxt
  |some xT=>exact⟨xT,rfl,by simpa[e1]using hxt⟩
 simp only[opE]at h;split at h
 ·rename_i id ver sz' off len hX;split at h
  ·rename_i sz'' ver' es hρ;split at h
   ·rename_i ds hds;split at h
    ·rename_i hcond;obtain⟨rfl,rfl,rfl,rfl,hlen,hroom⟩:=hcond;have:=op_app hI hE hop hcal ha h0 h1 hs hxT hqe hzl hx hy hX hρ hds hlen hroom;split at h
     ·rename_i hd;simp only[Option.some.injEq,Prod.mk.injEq]at h;obtain⟨rfl,rfl⟩:=h;simpa only[hd,if_true]using this
     ·rename_i hd;simp only[Option.some.injEq,Prod.mk.injEq]at h;obtain⟨rfl,rfl⟩:=h;simpa only[hd,if_false]using this
    ·cases h
   ·cases h
  ·rename_i sz'' ver' es hρ;split at h
   ·rename_i rows hY;split at h
    ·rename_i hcond;obtain⟨rfl,e1,e2,rfl,hlen,hroom⟩:=hcond;subst e1;subst e2;split at h
     ·rename_i hd;simp only[Option.some.injEq,Prod.mk.injEq]at h;obtain⟨rfl,rfl⟩:=h;have hrows:rows=[]:=List.eq_nil_of_length_eq_zero hd;subst hrows;have hrx:=zea7 (C:=C) hE hx;rw[hX]at hrx;simp only[RepA]at hrx;obtain⟨A,p,cap,_,_,a3,a4,_⟩:=hrx;exact op_appZ hI hE hop hcal ha h0 h1 hs hxT hqe hx hy ⟨p,len,cap,a3,a4⟩ hY hX.symm
     ·rename_i hd;simp only[Option.some.injEq,Prod.mk.injEq]at h;obtain⟨rfl,rfl⟩:=h;exact op_appR hI hE hop hcal ha h0 h1 hs hxT hqe hzl hx hy hX hρ hY hlen hd hroom
    ·cases h
   ·cases h
  ·cases h
 ·rename_i hX;have hrx:=zea7 (C:=C) hE hx;rw[hX]at hrx;simp only[RepA]at hrx;split at h
  ·split at h
   ·rename_i rows hY;split at h
    ·rename_i hd;simp only[Option.some.injEq,Prod.mk.injEq]at h;obtain⟨rfl,rfl⟩:=h;have hrows:rows=[]:=List.eq_nil_of_length_eq_zero hd;subst hrows;exact op_appZ hI hE hop hcal ha h0 h1 hs hxT hqe hx hy ⟨none,0,0,hrx,Nat.le_refl _⟩ hY hX.symm
    ·rename_i hd;split at h
     ·rename_i nv hnv;split at h
      ·rename_i hcond;obtain⟨e2,hroom⟩:=hcond;simp only[Option.some.injEq,Prod.mk.injEq]at h;obtain⟨rfl,rfl⟩:=h;exact zff7 hI hop hcal ha h0 h1 hs hxT hqe hzl e2 ⟨none,hrx⟩ hY (zea7 hE hy) hnv hd hroom
      ·cases h
     ·cases h
   ·cases h
  ·split at h
   ·rename_i ds hds;split at h
    ·rename_i hd;simp only[Option.some.injEq,Prod.mk.injEq]at h;obtain⟨rfl,rfl⟩:=h;have:=op_appNil (site:=site) (nv:=0) hI hE hop hcal ha h0 h1 hs hxT hqe hzl hsz hx hy hX hds (fun e=>absurd hd e) (fun e=>absurd hd e)
     rwa [if_pos hd]at this
    ·rename_i hd;split at h
     ·rename_i nv hnv;split at h
      ·rename_i hcond;simp only[Option.some.injEq,Prod.mk.injEq]at h;obtain⟨rfl,rfl⟩:=h;have:=op_appNil hI hE hop hcal ha h0 h1 hs hxT hqe hzl hsz hx hy hX hds (fun _=>hnv) (fun _=>hcond.2)
       rwa [if_neg hd]at this
      ·cases h
     ·cases h
   ·cases h
 ·rename_i hX;have hrx:=zea7 (C:=C) hE hx;rw[hX]at hrx;simp only[RepA]at hrx;split at h
  ·split at h
   ·rename_i rows hY;split at h
    ·rename_i hd;simp only[Option.some.injEq,Prod.mk.injEq]at h;obtain⟨rfl,rfl⟩:=h;have hrows:rows=[]:=List.eq_nil_of_length_eq_zero hd;subst hrows;obtain⟨p,hrx⟩:=hrx;exact op_appZ hI hE hop hcal ha h0 h1 hs hxT hqe hx hy ⟨p,0,0,hrx,Nat.le_refl _⟩ hY hX.symm
    ·rename_i hd;split at h
     ·rename_i nv hnv;split at h
      ·rename_i hcond;obtain⟨e2,hroom⟩:=hcond;simp only[Option.some.injEq,Prod.mk.injEq]at h;obtain⟨rfl,rfl⟩:=h;exact zff7 hI hop hcal ha h0 h1 hs hxT hqe hzl e2 hrx hY (zea7 hE hy) hnv hd hroom
      ·cases h
     ·cases h
   ·cases h
  ·split at h
   ·rename_i ds hds;split at h
    ·rename_i hd;simp only[Option.some.injEq,Prod.mk.injEq]at h;obtain⟨rfl,rfl⟩:=h;have:=op_appCap (site:=site) (nv:=0) hI hE hop hcal ha h0 h1 hs hxT hqe hzl hsz hx hy hX hds (fun e=>absurd hd e) (fun e=>absurd hd e)
     rwa [if_pos hd]at this
    ·rename_i hd;split at h
     ·rename_i nv hnv;split at h
      ·rename_i hcond;simp only[Option.some.injEq,Prod.mk.injEq]at h;obtain⟨rfl,rfl⟩:=h;have:=op_appCap hI hE hop hcal ha h0 h1 hs hxT hqe hzl hsz hx hy hX hds (fun _=>hnv) (fun _=>hcond.2)
       rwa [if_neg hd]at this
      ·cases h
     ·cases h
   ·cases h
 ·rename_i l hX;split at h
  ·rename_i ds nv hds hnv;split at h
   ·rename_i hcond;obtain⟨_,hd,hw,hroom⟩:=hcond;simp only[Option.some.injEq,Prod.mk.injEq]at h;obtain⟨rfl,rfl⟩:=h;exact op_appFull hI hE hop hcal ha h0 h1 hs hxT hqe hzl hsz hx hy hX hds hnv hd hw hroom
   ·cases h
  ·cases h
 ·cases h
theorem snd_slc3 (hI:Inv B C) (hE:RepE C g a) {t e:TypeId} {x hi mx:Operand} {lo:Option Operand} {q:TI} {ax al ah am:AX} (hop:o.op=.slice t x lo (some hi) (some mx)) (hx:cX x=some ax)
  (hl:(lo=none∧al=.c (.dat (.int .i64 0)))∨∃lo',lo=some lo'∧cX lo'=some al) (hh:cX hi=some ah) (hm:cX mx=some am)
  (ht:P.underlying t=some (.slice e)) (hq:tI P e=some q) (h:opE site (.slc3 q.size ax al ah am) g C.ρ=some (v,upd)):Does P o a C.w (Owes B C v upd):=by
 simp only[opE]at h;split at h
 ·rename_i l hh' m' h1 h2 h3;split at h
  ·rename_i ds ids hd;split at h
   ·rename_i hb;obtain⟨v',hv,he⟩:=zda7 h;simp only[Prod.mk.injEq]at he;obtain⟨rfl,rfl⟩:=he;obtain⟨v2,hv2,rfl⟩:=Option.map_eq_some_iff.1 hv;refine op_slc3 hI hE hop hx ?_ hh hm ht hq h2 h3 hd hb hv2;rcases hl with⟨rfl,rfl⟩|⟨lo',rfl,hl⟩
    ·simp[evX,zmb7]at h1;exact .inl ⟨rfl,h1.symm⟩
    ·exact .inr ⟨lo',al,rfl,hl,h1⟩
   ·cases h
  ·cases h
 ·cases h
theorem snd_builtin (hI:Inv B C) (hE:RepE C g a) {c:Call} (hop:o.op=.call c) (hc:cOp P m o=some k) (h:opE site k g C.ρ=some (v,upd)):Does P o a C.w (Owes B C v upd):=by
 simp only[cOp,hop]at hc;split at hc
 ·rename_i ax hcal hargs;obtain⟨x,ha,hx⟩:=cXs_one hargs;split at hc
  ·rename_i e hu;simp only[Option.some.injEq]at hc;subst hc;simp only[opE,Bool.false_eq_true,if_false]at h;obtain⟨hv,rfl⟩:=ztb7 h;cases e0:c.argTypes[0]? with
   |none=>simp[e0]at hu
   |some t=>exact op_len hI hE hop hcal ha e0 (by simpa[e0]using hu) hx hv
  ·rename_i hu;simp only[Option.some.injEq]at hc;subst hc;simp only[opE,if_true]at h;obtain⟨hv,rfl⟩:=ztb7 h;cases e0:c.argTypes[0]? with
   |none=>simp[e0]at hu
   |some t=>exact op_lenS hI hE hop hcal ha e0 (by simpa[e0]using hu) hx hv
  ·rename_i hu;simp only[Option.some.injEq]at hc;subst hc;simp only[opE]at h;obtain⟨hv,rfl⟩:=ztb7 h;cases e0:c.argTypes[0]? with
   |none=>simp[e0]at hu
   |some t=>exact op_lenM hI hE hop hcal ha e0 (by simpa[e0]using hu) hx hv
  ·cases hc
 ·rename_i ax hcal hargs;obtain⟨x,ha,hx⟩:=cXs_one hargs;split at hc
  ·rename_i e hu;simp only[Option.some.injEq]at hc;subst hc;simp only[opE]at h;obtain⟨hv,rfl⟩:=ztb7 h;cases e0:c.argTypes[0]? with
   |none=>simp[e0]at hu
   |some t=>exact op_cap hI hE hop hcal ha e0 (by simpa[e0]using hu) hx hv
  ·cases hc
 ·rename_i ax ay hcal hargs;split at hc
  ·rename_i q e' hq hxt;split at hc
   ·rename_i hz;simp only[Option.some.injEq]at hc;subst hc;exact snd_app hI hE hop hcal hargs hq (.inl ⟨e',hxt⟩) hz h
   ·cases hc
  ·rename_i q hq hxt;split at hc
   ·rename_i hz;simp only[Option.some.injEq]at hc;subst hc;exact snd_app hI hE hop hcal hargs hq (.inr hxt) hz h
   ·cases hc
  ·rename_i q kk hq hxt;obtain⟨zero,hz,rfl⟩:=zda7 hc;obtain⟨x,y,ha,hx,hy⟩:=cXs_two hargs;obtain⟨sT,e,h0,hs,hqe⟩:=zge7 hq;cases h1:c.argTypes[1]? with
   |none=>simp[h1]at hxt
   |some xT=>
    have hxT:P.underlying xT=some (.int kk):=by simpa[h1]using hxt
    simp only[opE]at h;split at h
    ·rename_i hX;split at h
     ·rename_i n z hY hd;split at h
      ·rename_i hcond;obtain⟨b1,b2,b3,b4⟩:=hcond;split at h
       ·rename_i nv hnv;simp only[Option.some.injEq,Prod.mk.injEq]at h;obtain⟨rfl,rfl⟩:=h;exact op_appZn hI hE hop hcal ha h0 h1 hs hxT hqe hz hd ⟨b3,b4⟩ hx hy hX hY ⟨b1,b2⟩ hnv
       ·cases h
      ·cases h
     ·cases h
    ·cases h
  ·cases hc
 ·rename_i ax ay hcal hargs;obtain⟨x,y,ha,hx,hy⟩:=cXs_two hargs;split at hc
  ·rename_i q hq;simp only[Option.some.injEq]at hc;subst hc;obtain⟨sT,e,h0,hs,hqe⟩:=zge7 hq;simp only[opE]at h;split at h
   ·rename_i id ver sz' off len ds hX hds;split at h
    ·rename_i sz'' ver' es hρ;split at h
     ·rename_i hcond;obtain⟨rfl,rfl,rfl,hb⟩:=hcond;simp only[Option.some.injEq,Prod.mk.injEq]at h;obtain⟨rfl,rfl⟩:=h;exact op_cpy hI hE hop hcal ha h0 hs hqe hx hy hX hρ hds hb
     ·cases h
    ·cases h
   ·cases h
  ·cases hc
 ·rename_i ax hcal hargs;obtain⟨x,ha,hx⟩:=cXs_one hargs;split at hc
  ·rename_i q hq;split at hc
   case isFalse=>cases hc
   rename_i hzk
   replace hzk:=zok_spec hzk
   obtain⟨zero,hz,rfl⟩:=zda7 hc;obtain⟨sT,e,h0,hs,hqe⟩:=zge7 hq;simp only[opE]at h;split at h
   ·rename_i id ver sz off len z hX hzd;split at h
    ·rename_i sz' ver' es hρ;split at h
     ·rename_i hcond;obtain⟨rfl,rfl,hb,hw⟩:=hcond;simp only[Option.some.injEq,Prod.mk.injEq]at h;obtain⟨rfl,rfl⟩:=h;have hrx:=zea7 hE hx;rw[hX]at hrx;obtain⟨o1,_⟩:=hI.objs id _ hρ
      have hszq:sz=q.size:=by
       obtain⟨zv,hzv,hcs⟩:=tI_zero hqe hz;have h1:=(zeroDat_rep (F:=C.F) hzd hcs).length;have h2:=congrArg List.length (zic7 hcs);obtain⟨l,hl1,hl2⟩:=hzk.1;rw[hz]at hl1;cases hl1;simp at h2 h1;omega
      subst hszq;exact op_clr hI hE hop hcal ha h0 hs hqe hz hzd hw hx hX hρ hb
     ·cases h
    ·cases h
   ·cases h
  ·cases hc
 ·rename_i ax r hcal hargs;simp only[Option.some.injEq]at hc;subst hc;simp only[opE]at h;obtain⟨hv,rfl⟩:=ztb7 h;exact op_mm (isMax:=true) hI hE hop hcal hargs hv
 ·rename_i ax r hcal hargs;simp only[Option.some.injEq]at hc;subst hc;simp only[opE]at h;obtain⟨hv,rfl⟩:=ztb7 h;exact op_mm (isMax:=false) hI hE hop hcal hargs hv
 ·split at hc
  ·split at hc
   ·simp only[Option.some.injEq]at hc;subst hc;simp[opE]at h
   ·split at hc
    ·simp only[Option.some.injEq]at hc;subst hc;simp[opE]at h
    ·cases hc
  ·cases hc
 ·obtain⟨ax,hx,rfl⟩:=zda7 hc;simp[opE]at h
 ·cases hc
theorem op_sound (hI:Inv B C) (hE:RepE C g a) (hc:cOp P m o=some k) (h:opE site k g C.ρ=some (v,upd)):Does P o a C.w (Owes B C v upd):=by
 cases hop:o.op with
 |move x=>exact snd_mv hI hE (.inl hop) hc h
 |assign x=>exact snd_mv hI hE (.inr hop) hc h
 |pick c x y=>
  simp only[cOp,hop]at hc;split at hc
  ·rename_i ac ax ay hc' hx hy;simp only[Option.some.injEq]at hc;subst hc;simp only[opE]at h;split at h
   ·rename_i t ht;simp only[Option.some.injEq,Prod.mk.injEq]at h;obtain⟨rfl,rfl⟩:=h;exact op_pick hI hE hop hc' hx hy ht
   ·cases h
  ·cases hc
 |nilCheck x=>
  simp only[cOp,hop]at hc;obtain⟨ax,hx,rfl⟩:=zda7 hc;simp only[opE]at h;split at h<;>(try (cases h;done))<;>simp only[Option.some.injEq,Prod.mk.injEq]at h<;>obtain⟨rfl,rfl⟩:=h
  ·rename_i id off e;rw[←e];exact op_nilChk hI hE hop hx (.inl ⟨_,_,e⟩)
  ·rename_i id ver i off e;rw[←e];exact op_nilChk hI hE hop hx (.inr (.inl ⟨_,_,_,_,e⟩))
  ·rename_i l e;rw[←e];exact op_nilChk hI hE hop hx (.inr (.inr (.inl ⟨_,e⟩)))
  ·rename_i f l e;rw[←e];exact op_nilChk hI hE hop hx (.inr (.inr (.inr ⟨_,_,e⟩)))
 |binOp op t x y u=>
  simp only[cOp,hop]at hc;split at hc
  ·rename_i bk ax ay hb hx hy;simp only[Option.some.injEq]at hc;subst hc;simp only[opE]at h;obtain⟨hv,rfl⟩:=ztb7 h;exact op_bin hI hE hop hb hx hy hv
  ·cases hc
 |unOp op t x=>
  simp only[cOp,hop]at hc;obtain⟨ax,hx,rfl⟩:=zda7 hc;simp only[opE]at h;obtain⟨hv,rfl⟩:=ztb7 h;exact op_un hI hE hop hx hv
 |convert s d x=>
  simp only[cOp,hop]at hc;split at hc
  ·rename_i k1 k2 ax hs hd hx;simp only[Option.some.injEq]at hc;subst hc;simp only[opE]at h;split at h
   ·rename_i k3 n hn;simp only[Option.some.injEq,Prod.mk.injEq]at h;obtain⟨rfl,rfl⟩:=h;exact op_cvt hI hE hop hx hs hd hn
   ·cases h
  ·rename_i e ax hs hd hx;split at hc
   ·rename_i i he hi;split at hc
    ·simp only[Option.some.injEq]at hc;subst hc;simp only[opE]at h;split at h
     ·rename_i l hl;split at h
      ·rename_i r hr;simp only[Option.some.injEq,Prod.mk.injEq]at h;obtain⟨rfl,rfl⟩:=h;exact op_b2s hI hE hop hx hs he hd hl hr
      ·cases h
     ·cases h
    ·cases hc
   ·cases hc
  ·cases hc
 |fieldAddr t x f=>
  simp only[cOp,hop]at hc;split at hc
  ·rename_i off i ax hf hx;split at hc
   ·cases hc
   ·rename_i hq;simp only[Option.some.injEq]at hc;subst hc;simp only[opE]at h;obtain⟨hv,rfl⟩:=ztb7 h;exact op_fAddr hI hE hop hx hf hq hv
  ·cases hc
 |field t x f=>
  simp only[cOp,hop]at hc;split at hc
  ·rename_i off i ax hf hx;split at hc
   ·rename_i hq;simp only[Option.some.injEq]at hc;subst hc;simp only[opE]at h;obtain⟨hv,rfl⟩:=ztb7 h;exact op_fld hI hE hop hx hf hq hv
   ·cases hc
  ·cases hc
 |indexAddr t x i=>
  simp only[cOp,hop]at hc;split at hc
  ·rename_i e ax ai ht hx hi;obtain⟨q,hq,rfl⟩:=zda7 hc;simp only[opE]at h;split at h
   ·rename_i n hn;obtain⟨hv,rfl⟩:=ztb7 h;exact op_iAddr hI hE hop hx hi ht hq hn hv
   ·cases h
  ·rename_i n e ax ai ht hx hi;obtain⟨q,hq,rfl⟩:=zda7 hc;simp only[opE]at h;split at h
   ·rename_i n' hn;split at h
    ·rename_i hb;obtain⟨hv,rfl⟩:=ztb7 h;exact op_iAddrA hI hE hop hx hi ht hq hn hb hv
    ·cases h
   ·cases h
  ·cases hc
 |index t x i=>
  simp only[cOp,hop]at hc;split at hc
  ·rename_i n e ax ai ht hx hi;split at hc
   ·rename_i q hq;split at hc
    ·rename_i hq1;simp only[Option.some.injEq]at hc;subst hc;simp only[opE]at h;split at h
     ·rename_i n' hn;split at h
      ·rename_i hb;obtain⟨hv,rfl⟩:=ztb7 h;exact op_idx hI hE hop hx hi ht hq hq1 hn hb hv
      ·cases h
     ·cases h
    ·cases hc
   ·cases hc
  ·rename_i ax ai ht hx hi;simp only[Option.some.injEq]at hc;subst hc;simp only[opE]at h;split at h
   ·rename_i s i' hs hn;split at h
    ·rename_i h0;obtain⟨b,hb,he⟩:=zda7 h;simp only[Prod.mk.injEq]at he;obtain⟨rfl,rfl⟩:=he;exact op_idxS hI hE hop hx hi ht hn hs h0 hb
    ·cases h
   ·cases h
  ·cases hc
 |extract x i=>
  simp only[cOp,hop]at hc;obtain⟨ax,hx,rfl⟩:=zda7 hc;simp only[opE]at h;split at h
  ·rename_i l hl;obtain⟨hv,rfl⟩:=ztb7 h;exact op_ext hI hE hop hx hl hv
  ·cases h
 |load t x=>
  simp only[cOp,hop]at hc;split at hc
  ·rename_i i ax hq hx;split at hc
   ·rename_i hq1;simp only[Option.some.injEq]at hc;subst hc;simp only[opE]at h;obtain⟨hv,rfl⟩:=ztb7 h;exact op_ld hI hE hop hx hq hq1 hv
   ·cases hc
  ·cases hc
 |store t x y=>
  simp only[cOp,hop]at hc;split at hc
  ·rename_i i ax ay hq hx hy;split at hc
   ·rename_i hq1;simp only[Option.some.injEq]at hc;subst hc;simp only[opE]at h;obtain⟨u,hu,he⟩:=zda7 h;simp only[Prod.mk.injEq]at he;obtain⟨rfl,rfl⟩:=he;exact op_st hI hE hop hx hy hq hq1 hu
   ·cases hc
  ·cases hc
 |box t x=>
  simp only[cOp,hop]at hc;split at hc
  ·rename_i i ax hq hx;simp only[Option.some.injEq]at hc;subst hc;simp only[opE]at h;split at h
   ·cases h
   ·rename_i hid;split at h
    ·rename_i hh;simp only[Option.some.injEq,Prod.mk.injEq]at h;obtain⟨rfl,rfl⟩:=h;exact op_box hI hE hop hx hid hh.2
    ·cases h
  ·cases hc
 |alloc t=>
  simp only[cOp,hop]at hc;split at hc
  ·rename_i i hq;obtain⟨z,hz,rfl⟩:=zda7 hc;simp only[opE]at h;split at h
   ·cases h
   ·rename_i hid;simp only[Option.some.injEq,Prod.mk.injEq]at h;obtain⟨rfl,rfl⟩:=h;exact op_alc hI hop hq hz hid
  ·cases hc
 |build t parts=>
  simp only[cOp,hop]at hc;split at hc
  ·rename_i n e hu;split at hc
   ·rename_i i q hq hi;split at hc
    ·rename_i ps hps;obtain⟨z,hz,rfl⟩:=zda7 hc;simp only[opE]at h;obtain⟨cs,hcs,he⟩:=zda7 h;simp only[Prod.mk.injEq]at he;obtain⟨rfl,rfl⟩:=he;exact op_bldA hI hE hop hu hq hi hz hps hcs
    ·cases hc
   ·cases hc
  ·split at hc
   ·rename_i i ps hq hps;split at hc
    ·rename_i hst;obtain⟨z,hz,rfl⟩:=zda7 hc;simp only[opE]at h;obtain⟨cs,hcs,he⟩:=zda7 h;simp only[Prod.mk.injEq]at he;obtain⟨rfl,rfl⟩:=he;refine op_bld hI hE hop hq hz hps ?_ hcs;unfold structOk at hst;split at hst
     ·rename_i fs hu;exact⟨fs,hu,fun fd hfd=>by rw[List.all_eq_true]at hst;exact hst fd hfd⟩
     ·cases hst
    ·cases hc
   ·cases hc
 |buildSlice t n parts=>exact snd_bldS hI hE hop hc h
 |makeSlice t l c=>exact snd_mk hI hE hop hc h
 |slice t x lo hi mx=>
  cases mx with
  |some mx=>
   cases lo with
   |none=>
    cases hi with
    |none=>simp only[cOp,hop]at hc;cases hc
    |some hi=>
     simp only[cOp,hop]at hc;split at hc
     ·rename_i e ax ah am ht hx hh hm;obtain⟨q,hq,rfl⟩:=zda7 hc;exact snd_slc3 hI hE hop hx (.inl ⟨rfl,rfl⟩) hh hm ht hq h
     ·cases hc
   |some lo=>
    cases hi with
    |none=>simp only[cOp,hop]at hc;cases hc
    |some hi=>
     simp only[cOp,hop]at hc;split at hc
     ·rename_i e ax al ah am ht hx hl hh hm;obtain⟨q,hq,he⟩:=zda7 hc;split at he
      ·subst he;simp only[opE]at h;split at h
       ·rename_i h1 h2 h3;obtain⟨hv,rfl⟩:=ztb7 h;exact op_slc0 hI hE hop hx hl hh hm ht (by simp[hq]) h1 h2 h3 hv
       ·cases h
      ·subst he;exact snd_slc3 hI hE hop hx (.inr ⟨lo,rfl,hl⟩) hh hm ht hq h
     ·cases hc
  |none=>
   simp only[cOp,hop]at hc;split at hc
   ·rename_i str sz ax alo ahi hty hx hlo hhi;simp only[Option.some.injEq]at hc;subst hc;have hlo':optX lo=some alo:=by cases lo<;>exact hlo
    have hhi':optX hi=some ahi:=by cases hi<;>exact hhi
    simp only[opE]at h;split at h
    ·rename_i l hh hl hhv;obtain⟨hv,rfl⟩:=ztb7 h;split at hty
     ·rename_i ht;simp only[Option.some.injEq,Prod.mk.injEq]at hty;obtain⟨rfl,rfl⟩:=hty;simp only[if_true]at hv;exact op_slcS hI hE hop hx hlo' hhi' ht (by cases alo<;>exact hl) (by cases ahi<;>exact hhv) hv
     ·rename_i e ht;obtain⟨q,hq,he⟩:=zda7 hty;simp only[Prod.mk.injEq]at he;obtain⟨rfl,rfl⟩:=he;simp only[Bool.false_eq_true,if_false]at hv;exact op_slc hI hE hop hx hlo' hhi' ht hq (by cases alo<;>exact hl) (by cases ahi<;>exact hhv) hv
     ·cases hty
    ·cases h
   ·cases hc
 |makeFunc fn first captured=>
  cases fn with
  |func f=>
   simp only[cOp,hop]at hc;split at hc
   ·cases hc
   ·rename_i hbig;split at hc
    ·rename_i h0;obtain⟨axs,hx,rfl⟩:=zda7 hc;simp only[opE,Option.some.injEq,Prod.mk.injEq]at h;obtain⟨rfl,rfl⟩:=h;exact op_mkf hI hE hop hbig h0 hx
    ·split at hc
     ·rename_i h0;obtain⟨axs,hx,rfl⟩:=zda7 hc;simp only[opE,Option.some.injEq,Prod.mk.injEq]at h;obtain⟨rfl,rfl⟩:=h;exact op_mkb hI hE hop h0 hx
     ·cases hc
  |_=>simp only[cOp,hop]at hc;cases hc
 |makeMap t r=>
  cases r with
  |some r=>simp only[cOp,hop]at hc;cases hc
  |none=>
   simp only[cOp,hop,Option.some.injEq]at hc;subst hc;simp only[opE]at h;split at h
   ·cases h
   ·rename_i e;simp only[Option.some.injEq,Prod.mk.injEq]at h;obtain⟨rfl,rfl⟩:=h;exact op_mkMap hI hop e
 |lookup t x i ok=>
  simp only[cOp,hop]at hc;split at hc
  ·rename_i kt sh et q am ak hT hm hk;split at hc
   ·rename_i z hz;split at hc
    ·rename_i hag;simp only[Option.some.injEq]at hc;subst hc;simp only[opE]at h;obtain⟨hv,rfl⟩:=ztb7 h;exact op_lkp hI hE hop hm hk hT hz hag hv
    ·cases hc
   ·cases hc
  ·cases hc
 |mapUpdate t x i y=>
  simp only[cOp,hop]at hc;split at hc
  ·rename_i kt sh et q am ak av hT hm hk hx;simp only[Option.some.injEq]at hc;subst hc;simp only[opE]at h;obtain⟨u,hu,he⟩:=zda7 h;simp only[Prod.mk.injEq]at he;obtain⟨rfl,rfl⟩:=he;exact op_mup hI hE hop hm hk hx hT hu
  ·cases hc
 |panic x=>
  simp only[cOp,hop,Option.some.injEq]at hc;subst hc;simp[opE]at h
 |makeInterface t x=>
  simp only[cOp,hop,Option.some.injEq]at hc;subst hc;simp[opE]at h
 |call c=>exact snd_builtin hI hE hop hc h
 |_=>simp only[cOp,hop]at hc;cases hc
end
end Go.Am

namespace Go.Am
variable [Glob]
theorem zza7 (T:TLook) (r:RId) (o:TObj) (j:RId):updT T [(r,o)] j=if r=j then some o else T j:=rfl
theorem zob7 (T:TLook) (l l':List (RId×TObj)):updT T (l++l')=updT (updT T l) l':=by
 induction l generalizing T with
 |nil=>rfl
 |cons p r ih=>simp[updT,ih]
theorem zia7 (r:RId) (pv:Nat):∀(k:Nat) (cs:List Cell),(rowsA r pv k cs).length=cs.length
 |_,[]=>rfl
 |k,c::cs=>by simp[rowsA,zia7 r pv (k+1) cs]
theorem zjb7 (r:RId) (pv:Nat):∀(k:Nat) (cs:List Cell) (i:Nat),(rowsA r pv k cs)[i]?=(cs[i]?).map fun c=>[cellA r pv (k+i) c]
 |k,[],i=>by simp[rowsA]
 |k,c::cs,0=>by simp[rowsA]
 |k,c::cs,i+1=>by
  simp only[rowsA,List.getElem?_cons_succ,zjb7 r pv (k+1) cs i];rw[show k+1+i=k+(i+1) by omega]
theorem zbd7 (r:RId) (pv i:Nat) (c:Cell):(cellA r pv i c).leaf=true:=by
 cases c with
 |nil=>simp[cellA]
 |d l=>simp[cellA,Dat.isAgg]
 |own f fz sz l=>cases f<;>simp[cellA]
theorem zec7 {T:TLook} {r:RId} {ver pv:Nat} {fz:Bool} {cells:List Cell} (h:T r=some (.fam ver pv fz cells)):
  flat T (r,0,0)=some (if fz then .arr 1 ver true (cells.map Cell.dat) else .rarr 1 ver (rowsA r pv 0 cells)):=by
 simp[flat,h,flatR]
theorem zac7 {T:TLook} {r:RId} {ver pv:Nat} {fz:Bool} {cells:List Cell} (h:T r=some (.fam ver pv fz cells)) (i:Nat):
  flat T (r,i+1,0)=some (kidO pv cells[i]?):=by
 simp[flat,h,flatR]
theorem zwe7 {T:TLook} {r:RId} {x y:Nat} (h:∃ver pv fz cells,T r=some (.fam ver pv fz cells)) (hy:y≠0):flat T (r,x,y)=none:=by
 obtain⟨ver,pv,fz,cells,h⟩:=h;simp[flat,h,flatR,hy]
theorem zxa7 {T:TLook} {r:RId} {o:Obj} (h:T r=some (.plain o)):flat T (r,0,0)=some o:=by
 simp[flat,h,flatR]
theorem zbb7 {T:TLook} {r:RId} {o:Obj} (h:T r=some (.plain o)) {p:Nat×Nat} (hp:p≠(0,0)):flat T (r,p)=none:=by
 obtain⟨x,y⟩:=p;simp only[flat,h,flatR];rw[if_neg];rintro⟨rfl,rfl⟩;exact hp rfl
theorem flat_none {T:TLook} {r:RId} (h:T r=none) (p:Nat×Nat):flat T (r,p)=none:=by
 simp[flat,h]
theorem zka7 {T T':TLook} {id:Id} (h:T' id.1=T id.1):flat T' id=flat T id:=by simp[flat,h]
theorem zhc7 (pv:Nat) (c:Option Cell):∃sz fz l,kidO pv c=.arr sz pv fz l:=by
 unfold kidO;split
 ·exact⟨_,_,_,rfl⟩
 ·exact⟨_,_,_,rfl⟩
theorem ObjOK.same {C C':Ctx} {L:Loc} {o:Obj} (h:ObjOK C L o) (hw:C'.w=C.w) (hF:C'.F=C.F) (hg:Grow C C'):ObjOK C' L o:=
 h.keep (T:=fun _ _=>False) (N:=fun _=>False) hg (by rw[hw];exact KeptB.refl _ _) (fun b o v hv=>.inl (by rwa [hF]at hv)) (fun _ _ _=>id) (fun _ _=>id)
theorem ObjOK.arr_ver {C C':Ctx} {L:Loc} {sz v v':Nat} {fz:Bool} {es:List Dat} (h:ObjOK C L (.arr sz v fz es)) (hw:C'.w=C.w) (hF:C'.F=C.F):ObjOK C' L (.arr sz v' fz es):=by
 obtain⟨h1,h2,h3,h4⟩:=h;refine⟨h1,h2,fun e=>?_,fun e=>by rw[hF];exact h4 e⟩;obtain⟨h5,h6⟩:=h3 e;refine⟨fun j hj=>by rw[hw,hF];exact h5 j hj,?_⟩;rw[hw,hF];exact h6
theorem ObjOK.dead {C C':Ctx} {L:Loc} {sz v v':Nat} {fz:Bool} {es:List Dat} (h:ObjOK C L (.arr sz v fz es)):ObjOK C' L (.arr sz v' true []):=by
 obtain⟨h1,⟨cap,h2,h3⟩,_⟩:=h;exact⟨h1,⟨cap,h2,Nat.zero_le _⟩,(fun e=>by cases e),(fun _=>by simp[RowD])⟩
theorem zod7 {C:Ctx} {L:Loc} {v:Nat}:ObjOK C L (.arr 1 v true []):=
 ⟨Nat.le_refl _,⟨L.n,by simp,Nat.zero_le _⟩,fun e=>(by cases e),fun _=>by simp[RowD]⟩
theorem Inv.redesc {B:Base} {C C':Ctx} (h:Inv B C) (hw:C'.w=C.w) (hF:C'.F=C.F) (σ:Id→Id)
  (hobj:∀id o,C'.ρ id=some o→ObjOK C' (C'.μ id) o)
  (hσ:∀id o,C'.ρ id=some o→o.own=true→∃o1,C.ρ (σ id)=some o1∧o1.own=true∧C'.μ id=C.μ (σ id))
  (hinj:∀id id' o o',C'.ρ id=some o→C'.ρ id'=some o'→o.own=true→o'.own=true→σ id=σ id'→id=id')
  (hblk:∀id x,C'.ρ id=some (.blk x)→∃x1,C.ρ id=some (.blk x1)∧C'.μ id=C.μ id):Inv B C':=by
 refine⟨hobj,fun i1 i2 o1 o2 h1 h2 w1 w2 hne j1 j2 hj1 hj2=>?_,fun id o ho how j hj=>?_,fun i1 i2 x1 x2 h1 h2 hne=>?_,fun id x hx=>?_,by rw[hw];exact h.kept,fun b o v hv=>by rw[hF]at hv;rw[hw];exact h.Fw b o v hv,by rw[hF];exact h.Fsub,fun b o v hv=>by rw[hF]at hv;exact h.Fnew b o v hv⟩
 ·obtain⟨p1,q1,r1,s1⟩:=hσ i1 o1 h1 w1;obtain⟨p2,q2,r2,s2⟩:=hσ i2 o2 h2 w2;rw[s1]at hj1 ⊢;rw[s2]at hj2 ⊢;exact h.disj _ _ p1 p2 q1 q2 r1 r2 (fun e=>hne (hinj i1 i2 o1 o2 h1 h2 w1 w2 e)) j1 j2 hj1 hj2
 ·obtain⟨p1,q1,r1,s1⟩:=hσ id o ho how;rw[s1]at hj ⊢;exact h.own _ p1 q1 r1 j hj
 ·obtain⟨_,p1,q1⟩:=hblk i1 x1 h1;obtain⟨_,p2,q2⟩:=hblk i2 x2 h2;rw[q1,q2];exact h.bdisj _ _ _ _ p1 p2 hne
 ·obtain⟨_,p1,q1⟩:=hblk id x hx;rw[q1];exact h.bown _ _ p1
def CellSt (C:Ctx) (r:RId) (j:Nat) (a:AVal):Cell→Prop
 |.nil=>a=.nils
 |.d l=>∀v,RepA C a v→RepV C.F (.sl l) v
 |.own fr fz sz l=>a.leaf=true∧∃v0,C.ρ (r,j+1,0)=some (.arr sz v0 fz l)∧(fr=true→a=.rsl (r,j+1,0) v0 sz 0 l.length)
structure Moved (C:Ctx) (T':TLook) (r:RId) (cells:List Cell) (es:List (List AVal)) (i:Nat) (r2:RId):Prop where
 ne:r2≠r
 src:∃sz v l,C.ρ (r2,0,0)=some (.arr sz v false l)∧T' r2=some (.plain (.arr sz (v+1) true []))∧cells[i]?=some (.own true false sz l)∧es[i]?=some [.rsl (r2,0,0) v sz 0 l.length]
 odd:∀p,p≠(0,0)→C.ρ (r2,p)=none
def movS (r:RId) (mv:Option (Nat×RId)) (id:Id):Id:=
 match mv with
 |some (i,r2)=>if id=(r,i+1,0) then (r2,0,0) else id
 |none=>id
theorem fam_step {B:Base} {C:Ctx} {T':TLook} (h:Inv B C) (r:RId) {ver pv:Nat} {cells:List Cell} {es:List (List AVal)} (mv:Option (Nat×RId))
  (hT:T' r=some (.fam ver pv false cells)) (hroot:C.ρ (r,0,0)=some (.rarr 1 ver es)) (hlen:es.length=cells.length)
  (hk:∀j ob,C.ρ (r,j+1,0)=some ob→∃sz v fz l,ob=.arr sz v fz l∧(v<pv∨((∀r2,mv≠some (j,r2))∧ob=kidO pv cells[j]?)))
  (hz:∀x y,y≠0→C.ρ (r,x,y)=none)
  (ho:∀id:Id,id.1≠r→(∀i,mv≠some (i,id.1))→flat T' id=C.ρ id)
  (hm:∀i r2,mv=some (i,r2)→Moved C T' r cells es i r2)
  (hc:∀j c,cells[j]?=some c→(∃r2,mv=some (j,r2))∨∃a,es[j]?=some [a]∧CellSt C r j a c):
  ∃C':Ctx,C'.w=C.w∧C'.F=C.F∧C'.ρ=flat T'∧Inv B C'∧Grow C C':=by
 let σ:Id→Id:=movS r mv
 let C':Ctx:={ w:=C.w,F:=C.F,μ:=fun id=>C.μ (movS r mv id),ρ:=flat T' }
 have hμσ:∀id,C'.μ id=C.μ (σ id):=fun id=>rfl
 have hσid:∀id,(∀i r2,mv=some (i,r2)→id≠(r,i+1,0))→σ id=id:=by
  intro id hid;simp only[σ,movS];split
  ·rename_i i r2;exact if_neg (hid i r2 rfl)
  ·rfl
 have hμ:∀id,(∀i r2,mv=some (i,r2)→id≠(r,i+1,0))→C'.μ id=C.μ id:=fun id hid=>by rw[hμσ,hσid id hid]
 have hroot':C'.ρ (r,0,0)=some (.rarr 1 ver (rowsA r pv 0 cells)):=by simp only[C'];rw[zec7 hT];rfl
 have hkid':∀j,C'.ρ (r,j+1,0)=some (kidO pv cells[j]?):=fun j=>zac7 hT j
 have hodd':∀x y,y≠0→C'.ρ (r,x,y)=none:=fun x y hy=>zwe7 ⟨_,_,_,_,hT⟩ hy
 have hrne:∀i r2,mv=some (i,r2)→(r,0,0)≠((r,i+1,0):Id):=fun i r2 _ e=>by simp at e
 have hother:∀id:Id,id.1≠r→∀i r2,mv=some (i,r2)→id≠(r,i+1,0):=fun id hid i r2 _ e=>hid (by rw[e])
 have hblkR:∀id x,id.1=r→C.ρ id≠some (.blk x):=by
  intro id x e1 hb;obtain⟨r',x,y⟩:=id;simp only at e1;subst e1;by_cases hy:y=0
  ·subst hy;cases x with
   |zero=>rw[hroot]at hb;cases hb
   |succ j=>
    obtain⟨sz,v,fz,l,q,_⟩:=hk j _ hb;cases q
  ·rw[hz x y hy]at hb;cases hb
 have hblkR':∀id x,id.1=r→C'.ρ id≠some (.blk x):=by
  intro id x e1 hb;obtain⟨r',x,y⟩:=id;simp only at e1;subst e1;by_cases hy:y=0
  ·subst hy;cases x with
   |zero=>rw[hroot']at hb;cases hb
   |succ j=>
    obtain⟨sz,fz,l,q⟩:=zhc7 pv cells[j]?;rw[hkid' j,q]at hb;cases hb
  ·rw[hodd' x y hy]at hb;cases hb
 have hblkM:∀id x,(∃i,mv=some (i,id.1))→C.ρ id≠some (.blk x)∧C'.ρ id≠some (.blk x):=by
  rintro⟨r',p⟩ x ⟨i,e2⟩;obtain⟨_,⟨sz,v,l,q1,q3,_⟩,q2⟩:=hm i r' e2;by_cases hp:p=(0,0)
  ·subst hp;refine⟨by rw[q1];simp,?_⟩;simp only[C'];rw[zxa7 q3];simp
  ·refine⟨by rw[q2 p hp];simp,?_⟩;simp only[C',flat,q3,flatR];split<;>simp
 have hblkO:∀id x,C'.ρ id=some (.blk x)→C.ρ id=some (.blk x)∧C'.μ id=C.μ id:=by
  intro id x hx;have e1:id.1≠r:=fun e=>hblkR' id x e hx
  have e2:∀i,mv≠some (i,id.1):=fun i e=>(hblkM id x ⟨i,e⟩).2 hx
  refine⟨?_,hμ id (hother id e1)⟩;rw[←ho id e1 e2];exact hx
 have hg:Grow C C':=by
  refine⟨fun _ _ _ h=>h,fun id L _ hb=>?_,fun id A _ ha=>?_,fun id b _ hb=>?_⟩;rotate_left 2
  ·obtain⟨x,hx,rfl⟩:∃x,C.ρ id=some (.blk x)∧b=(C.μ id).b:=by
    unfold blkAt at hb;split at hb
    ·rename_i x hx;exact⟨x,hx,by simpa using hb.symm⟩
    ·cases hb
   have e1:id.1≠r:=fun e=>hblkR id x e hx
   have e2:∀i,mv≠some (i,id.1):=fun i e=>(hblkM id x ⟨i,e⟩).1 hx
   have:=ho id e1 e2;unfold blkAt;have hx':C'.ρ id=some (.blk x):=by simp only[C'];rw[this,hx]
   rw[hx',hμ id (hother id e1)]
  ·by_cases e1:id.1=r
   ·exfalso;obtain⟨r',x,y⟩:=id;simp only at e1;subst e1;unfold boxAt at hb;by_cases hy:y=0
    ·subst hy;cases x with
     |zero=>rw[hroot]at hb;simp at hb
     |succ j=>
      cases e:C.ρ (r',j+1,0) with
      |none=>rw[e]at hb;simp at hb
      |some ob=>
       obtain⟨sz,v,fz,l,q,_⟩:=hk j ob e;rw[e,q]at hb;simp at hb
    ·rw[hz x y hy]at hb;simp at hb
   ·by_cases e2:∃i,mv=some (i,id.1)
    ·exfalso;obtain⟨i,e2⟩:=e2;obtain⟨_,⟨sz,v,l,q1,_⟩,q2⟩:=hm i id.1 e2;obtain⟨r',p⟩:=id;unfold boxAt at hb;by_cases hp:p=(0,0)
     ·subst hp;rw[q1]at hb;simp at hb
     ·rw[q2 p hp]at hb;simp at hb
    ·have:=ho id e1 (fun i hi=>e2 ⟨i,hi⟩);unfold boxAt at hb ⊢;simp only[C']at *
     rw[this,hμ id (hother id e1)];exact hb
  ·by_cases e1:id.1=r
   ·obtain⟨r',x,y⟩:=id;simp only at e1;subst e1;by_cases hy:y=0
    ·subst hy;cases x with
     |zero=>
      refine⟨A,?_,Nat.le_refl _,fun _=>⟨rfl,rfl,Nat.le_refl _⟩⟩;unfold arrAt at ha ⊢;rw[hroot]at ha;rw[hroot',hμ _ (hrne)];simpa[zia7,hlen]using ha
     |succ j=>
      cases e:C.ρ (r',j+1,0) with
      |none=>unfold arrAt at ha;rw[e]at ha;simp at ha
      |some ob=>
       obtain⟨sz,v,fz,l,q,q'⟩:=hk j ob e;obtain⟨sz',fz',l',q2⟩:=zhc7 pv cells[j]?
       have hA:A=⟨v,sz,l.length,C.μ (r',j+1,0)⟩:=by
        unfold arrAt at ha;rw[e,q]at ha;simpa using ha.symm
       refine⟨⟨pv,sz',l'.length,C'.μ (r',j+1,0)⟩,by unfold arrAt;rw[hkid' j,q2],?_,?_⟩
       ·subst hA;rcases q' with q'|⟨_,q'⟩
        ·exact Nat.le_of_lt q'
        ·rw[q,q2]at q';cases q';exact Nat.le_refl _
       ·subst hA;intro e';simp only at e';rcases q' with q'|⟨q3,q'⟩
        ·omega
        ·rw[q,q2]at q';cases q';refine⟨rfl,?_,Nat.le_refl _⟩
         exact hμ _ fun i r2 hmv e=>by
          simp only[Prod.mk.injEq,true_and,and_true,Nat.add_right_cancel_iff]at e;subst e;exact q3 r2 hmv
    ·unfold arrAt at ha;rw[hz x y hy]at ha;simp at ha
   ·by_cases e2:∃i,mv=some (i,id.1)
    ·obtain⟨i,e2⟩:=e2;obtain⟨_,⟨sz,v,l,q1,q3,_⟩,q2⟩:=hm i id.1 e2;obtain⟨r',p⟩:=id;simp only at q3;by_cases hp:p=(0,0)
     ·subst hp
      have hA:A=⟨v,sz,l.length,C.μ (r',0,0)⟩:=by
       unfold arrAt at ha;rw[q1]at ha;simpa using ha.symm
      subst hA;exact⟨⟨v+1,sz,0,C'.μ (r',0,0)⟩,by unfold arrAt;simp only[C'];rw[zxa7 q3];rfl,Nat.le_succ _,fun e=>by simp only at e;omega⟩
     ·unfold arrAt at ha;rw[q2 p hp]at ha;simp at ha
    ·have:=ho id e1 (fun i hi=>e2 ⟨i,hi⟩);refine⟨A,?_,Nat.le_refl _,fun _=>⟨rfl,rfl,Nat.le_refl _⟩⟩;unfold arrAt at ha ⊢;simp only[C']at *
     rw[this,hμ id (hother id e1)];exact ha
 have hRsl:∀(id id':Id) (v0 v1 sz:Nat) (l l':List Dat) (fz fz':Bool) (v:Value),C.ρ id=some (.arr sz v0 fz l)→C'.ρ id'=some (.arr sz v1 fz' l)→C'.μ id'=C.μ id→RepA C (.rsl id v0 sz 0 l.length) v→RepA C' (.rsl id' v1 sz 0 l.length) v:=by
  intro id id' v0 v1 sz l l' fz fz' v h1 h2 h3 hr;simp only[RepA]at hr ⊢;obtain⟨A,p,cap,a1,a2,a3,a4,a5,a6⟩:=hr;have hA:A=⟨v0,sz,l.length,C.μ id⟩:=by unfold arrAt at a1;rw[h1]at a1;simpa using a1.symm
  subst hA;obtain⟨g1,g2,g3,g4⟩:=a6 rfl;exact⟨⟨v1,sz,l.length,C'.μ id'⟩,p,cap,by unfold arrAt;rw[h2],Nat.le_refl _,a3,a4,a5,fun _=>⟨rfl,g2,by rw[h3];exact g3,fun hc=>by rw[h3];exact g4 hc⟩⟩
 have hcell:∀j c,cells[j]?=some c→∃a,es[j]?=some [a]∧∀v,RepA C a v→RepA C' (cellA r pv j c) v:=by
  intro j c hjc;by_cases hmj:∃r2,mv=some (j,r2)
  ·obtain⟨r2,hmj⟩:=hmj;obtain⟨m1,⟨sz,v,l,m2,m3,m4,m5⟩,_⟩:=hm j r2 hmj;rw[hjc]at m4;cases m4;refine⟨_,m5,fun u hu=>?_⟩;simp only[cellA];refine hRsl (r2,0,0) (r,j+1,0) v pv sz l l false false u m2 (by rw[hkid' j,hjc];rfl) ?_ hu;rw[hμσ];simp[σ,movS,hmj]
  ·rcases hc j c hjc with hmj'|⟨a,ha,hst⟩
   ·exact absurd hmj' hmj
   ·refine⟨a,ha,fun u hu=>?_⟩;cases c with
    |nil=>cases hst;simpa only[cellA,RepA]using hu
    |d l=>simp only[cellA,RepA];exact hst u hu
    |own fr fz sz l=>
     obtain⟨s1,v0,s2,s3⟩:=hst;cases fr with
     |false=>
      simp only[cellA,RepA];exact hu.leaf s1
     |true=>
      simp only[cellA];rw[s3 rfl]at hu;refine hRsl (r,j+1,0) (r,j+1,0) v0 pv sz l l fz fz u s2 (by rw[hkid' j,hjc];rfl) ?_ hu
      exact hμ _ fun i r2 hmv e=>by
       simp only[Prod.mk.injEq,true_and,and_true,Nat.add_right_cancel_iff]at e;subst e;exact hmj ⟨r2,hmv⟩
 refine⟨C',rfl,rfl,rfl,h.redesc rfl rfl σ ?_ ?_ ?_ (fun id x hx=>⟨x,hblkO id x hx⟩),hg⟩
 ·
  intro id o hob;by_cases e1:id.1=r
  ·obtain⟨r',x,y⟩:=id;simp only at e1;subst e1;by_cases hy:y=0
   ·subst hy;cases x with
    |zero=>
     rw[hroot']at hob;simp only[Option.some.injEq]at hob;subst hob;rw[hμ _ hrne];obtain⟨o1,⟨cap,o2,o2'⟩,o3,o4,o5⟩:=h.objs _ _ hroot;refine⟨Nat.le_refl _,⟨cap,o2,by rw[zia7,←hlen];exact o2'⟩,fun row hr=>?_,fun j hj=>o4 j hj,fun i row hi j a hj=>?_⟩
     ·obtain⟨i,hi⟩:=List.getElem?_of_mem hr;rw[zjb7]at hi;obtain⟨c,_,rfl⟩:=zda7 hi;simp[zbd7]
     ·rw[zjb7]at hi;obtain⟨c,hcc,rfl⟩:=zda7 hi;obtain⟨a',ha',hrep⟩:=hcell i c hcc
      have hj0:j=0:=by
       have:=(List.getElem?_eq_some_iff.1 hj).1;simp at this;exact this
      subst hj0;simp only[Nat.zero_add,List.getElem?_cons_zero,Option.some.injEq]at hj;subst hj;obtain⟨v,hv,hr⟩:=o5 i [a'] ha' 0 a' rfl;exact⟨v,hv,hrep v hr⟩
    |succ j=>
     rw[hkid' j]at hob;simp only[Option.some.injEq]at hob;subst hob;cases hcj:cells[j]? with
     |none=>exact zod7
     |some c=>
      cases c with
      |nil=>exact zod7
      |d l=>exact zod7
      |own fr fz sz l=>
       simp only[kidO];by_cases hmj:∃r2,mv=some (j,r2)
       ·obtain⟨r2,hmj⟩:=hmj;obtain⟨m1,⟨sz',v,l',m2,m3,m4,m5⟩,_⟩:=hm j r2 hmj;rw[hcj]at m4;cases m4;rw[hμσ];simp only[σ,movS,hmj,if_true];exact (h.objs _ _ m2).arr_ver rfl rfl
       ·rcases hc j _ hcj with hmj'|⟨a,ha,_,v0,s2,_⟩
        ·exact absurd hmj' hmj
        ·rw[hμ _ fun i r2 hmv e=>by
          simp only[Prod.mk.injEq,true_and,and_true,Nat.add_right_cancel_iff]at e;subst e;exact hmj ⟨r2,hmv⟩]
         exact (h.objs _ _ s2).arr_ver rfl rfl
   ·rw[hodd' x y hy]at hob;cases hob
  ·by_cases e2:∃i,mv=some (i,id.1)
   ·obtain⟨i,e2⟩:=e2;obtain⟨_,⟨sz,v,l,q1,q3,_⟩,q2⟩:=hm i id.1 e2;obtain⟨r',p⟩:=id;simp only at q3;by_cases hp:p=(0,0)
    ·subst hp;simp only[C']at hob;rw[zxa7 q3]at hob;simp only[Option.some.injEq]at hob;subst hob;rw[hμ _ (hother _ e1)];exact (h.objs _ _ q1).dead
    ·simp only[C']at hob;rw[zbb7 q3 hp]at hob;cases hob
   ·have hh:=ho id e1 (fun i hi=>e2 ⟨i,hi⟩);have hob':C.ρ id=some o:=by rw[←hh];exact hob
    rw[hμ id (hother id e1)];exact (h.objs id o hob').same rfl rfl hg
 ·
  intro id o hob how;refine ?_;rw[hμσ];by_cases e1:id.1=r
  ·obtain⟨r',x,y⟩:=id;simp only at e1;subst e1;by_cases hy:y=0
   ·subst hy;cases x with
    |zero=>exact⟨_,by rw[hσid _ hrne];exact hroot,rfl,rfl⟩
    |succ j=>
     rw[hkid' j]at hob;simp only[Option.some.injEq]at hob;subst hob;cases hcj:cells[j]? with
     |none=>rw[hcj]at how;simp[kidO,Obj.own]at how
     |some c=>
      cases c with
      |nil=>rw[hcj]at how;simp[kidO,Obj.own]at how
      |d l=>rw[hcj]at how;simp[kidO,Obj.own]at how
      |own fr fz sz l=>
       rw[hcj]at how;simp only[kidO]at how;by_cases hmj:∃r2,mv=some (j,r2)
       ·obtain⟨r2,hmj⟩:=hmj;obtain⟨m1,⟨sz',v,l',m2,m3,m4,m5⟩,_⟩:=hm j r2 hmj;refine⟨.arr sz' v false l',?_,rfl,rfl⟩;simp only[σ,movS,hmj,if_true];exact m2
       ·rcases hc j _ hcj with hmj'|⟨a,ha,_,v0,s2,_⟩
        ·exact absurd hmj' hmj
        ·refine⟨.arr sz v0 fz l,?_,?_,rfl⟩
         ·rw[hσid _ fun i r2 hmv e=>by
           simp only[Prod.mk.injEq,true_and,and_true,Nat.add_right_cancel_iff]at e;subst e;exact hmj ⟨r2,hmv⟩]
          exact s2
         ·simpa[Obj.own]using how
   ·rw[hodd' x y hy]at hob;cases hob
  ·rw[hσid id (hother id e1)];by_cases e2:∃i,mv=some (i,id.1)
   ·obtain⟨i,e2⟩:=e2;obtain⟨_,⟨sz,v,l,q1,q3,_⟩,q2⟩:=hm i id.1 e2;obtain⟨r',p⟩:=id;simp only at q3;by_cases hp:p=(0,0)
    ·subst hp;simp only[C']at hob;rw[zxa7 q3]at hob;simp only[Option.some.injEq]at hob;subst hob;simp[Obj.own]at how
    ·simp only[C']at hob;rw[zbb7 q3 hp]at hob;cases hob
   ·have hh:=ho id e1 (fun i hi=>e2 ⟨i,hi⟩);exact⟨o,by rw[←hh];exact hob,how,rfl⟩
 ·
  intro id id' o o' hob hob' how how' he;cases hmv:mv with
  |none=>simpa[σ,movS,hmv]using he
  |some p=>
   obtain⟨i,r2⟩:=p;obtain⟨m1,⟨sz,v,l,m2,m3,m4,m5⟩,_⟩:=hm i r2 hmv
   have key:∀id o,C'.ρ id=some o→o.own=true→id≠(r2,0,0):=by
    intro id o h1 h2 e;subst e;simp only[C']at h1;rw[zxa7 m3]at h1;simp only[Option.some.injEq]at h1;subst h1;simp[Obj.own]at h2
   simp only[σ,movS,hmv]at he;by_cases h1:id=(r,i+1,0)
   ·by_cases h2:id'=(r,i+1,0)
    ·rw[h1,h2]
    ·rw[if_pos h1,if_neg h2]at he;exact absurd he.symm (key id' o' hob' how')
   ·by_cases h2:id'=(r,i+1,0)
    ·rw[if_neg h1,if_pos h2]at he;exact absurd he (key id o hob how)
    ·rw[if_neg h1,if_neg h2]at he;exact he
end Go.Am
