/- Parts of the proofs of the statement, joined and made short: AmMap. -/
import Derived.Test.YtmoibjjpfemgjaaGreatDoorP8
import Derived.MapFrom
import Derived.Carry
set_option linter.unusedVariables false
set_option linter.unusedSimpArgs false
set_option linter.unusedSectionVars false
namespace Go.Am
variable [Glob]
section
variable {P:Program} {o:Oper} {a:Act} {B:Base} {C:Ctx} {g:Nat→AVal}
theorem underK {t:TypeId} (h:keyOk P t=true):(∃k,P.underlying t=some (.int k))∨P.underlying t=some .bool∨P.underlying t=some .string∨(∃fs,P.underlying t=some (.struct fs)∧∀f∈fs.toList,zfd7 P f.type=true)∨∃n el,P.underlying t=some (.array n el)∧zfd7 P el=true:=by
 unfold keyOk at h;split at h
 ·rename_i k e;exact .inl ⟨k,e⟩
 ·rename_i e;exact .inr (.inl e)
 ·rename_i e;exact .inr (.inr (.inl e))
 ·rename_i fs e;exact .inr (.inr (.inr (.inl ⟨fs,e,fun f hf=>List.all_eq_true.1 h f hf⟩)))
 ·rename_i n el e;exact .inr (.inr (.inr (.inr ⟨n,el,e,h⟩)))
 ·cases h
theorem val_mkV {t:TypeId} (hk:keyOk P t=true) {kd:Dat} {v:Value} (hag:kd.isAgg=aggK P t) (hv:zqc7 v=kd.isAgg) (hc:v.cells.toList=kd.cells.map valD):v=mkV P t kd.cells:=by
 have scal:aggK P t=false→(∀a,mkV P t a=(a.map valD).headD undef)→v=mkV P t kd.cells:=by
  intro ha hm;rw[ha]at hag;rw[hag]at hv;rw[zva7 hv]at hc;rw[hm,←hc];rfl
 rcases underK hk with⟨k,e⟩|e|e|⟨fs,e,_⟩|⟨n,el,e,_⟩
 ·exact scal (by simp[aggK,e]) (fun a=>by simp[mkV,e])
 ·exact scal (by simp[aggK,e]) (fun a=>by simp[mkV,e])
 ·exact scal (by simp[aggK,e]) (fun a=>by simp[mkV,e])
 ·have ha:aggK P t=true:=by simp[aggK,e]
  rw[ha]at hag;rw[hag]at hv;cases v<;>simp[zqc7]at hv;rename_i cs;simp only[Value.cells]at hc;simp[mkV,e,←hc]
 ·have ha:aggK P t=true:=by simp[aggK,e]
  rw[ha]at hag;rw[hag]at hv;cases v<;>simp[zqc7]at hv;rename_i cs;simp only[Value.cells]at hc;simp[mkV,e,←hc]
theorem zle7 {F:Froz} {t:TypeId} {sh:List Sh} (hk:keyOk P t=true) {x y:Dat} {v u:Value} {e:Bool} (hx:RepV F x v) (hy:RepV F y u) (ax:x.isAgg=aggK P t) (ay:y.isAgg=aggK P t) (he:zra7 sh x.cells y.cells=some e):
  v=mkV P t x.cells∧u=mkV P t y.cells:=by
 obtain⟨h1,h2⟩:=zne7 he hx.1.cellsAgg hy.1.cellsAgg;exact⟨val_mkV hk ax hx.2 h1,val_mkV hk ay hy.2 h2⟩
theorem run_equalK {t:TypeId} {sh:List Sh} (hs:shapeOf P 6 t=some sh) {x y:List Dat} {e:Bool} (he:zra7 sh x y=some e) (w:World):(Op.equal t (mkV P t x) (mkV P t y)).run P w=.ok e w:=by
 exact shape_run 6 9994 t sh hs x y e w he
theorem zcc7 {t:TypeId} (hs:zfd7 P t=true) (em:Bool) (n:Nat) (v:Value) (w:World):(Instr.checkKey em (n+1) t v).run P w=.ok () w:=by
 unfold zfd7 at hs;unfold Instr.checkKey;split at hs<;>(try (cases hs;done))<;>rename_i e<;>simp only[Sem.run_bind,run_underlying e,Result.andThen_ok]<;>cases v<;>rfl
theorem zmf7 {t:TypeId} {m:Nat} {em:Bool} {n:Nat}:∀(fs:List Field) (o:Nat) (sh:List Sh),zsd7 P (shapeOf P m) o fs=some sh→(∀f∈fs,zfd7 P f.type=true)→∀(a pa:List Dat) (e:Bool) (b:List Dat) (w:World),pa.length=o→zra7 sh a b=some e→
   (forIn fs PUnit.unit fun f _=>do
    if f.name ≠ "_" then Instr.checkKey em (n+1) f.type (←part f.type ((pa++a).map valD).toArray f.offset)
    pure (ForInStep.yield PUnit.unit):Sem PUnit).run P w=.ok PUnit.unit w
 |[],o,sh,h,hf,a,pa,e,b,w,hpa,he=>by simp
 |f::fs,o,sh,h,hf,a,pa,e,b,w,hpa,he=>by
  simp only[zsd7]at h;split at h
  ·rename_i l r hl hr;split at h
   ·rename_i hc;obtain⟨c1,c2,c3,c4⟩:=hc;simp only[Option.some.injEq]at h;subst h;obtain⟨e1,e2,q1,q2,q3⟩:=zoc7 he;obtain⟨n1,n2⟩:=zfe7 q1;have p1:=zdf7 (P:=P) (t:=f.type) (a:=pa++a) (pre:=pa) (mid:=a.take l.length) (post:=a.drop l.length) (by simp) (by rw[n1,c2]) c4 hl n1.symm w;rw[hpa]at p1;have p2:=zcc7 (hf f (by simp)) em n (mkV P f.type (a.take l.length)) w;have:=zmf7 (t:=t) (em:=em) (n:=n) fs _ r hr (fun f' hf'=>hf f' (by simp[hf'])) (a.drop l.length) (pa++a.take l.length) e2 (b.drop l.length) w (by rw[List.length_append,n1,hpa,c2]) q2;simp only[List.append_assoc,List.take_append_drop]at this;simp only[List.forIn_cons,Sem.run_bind,c3,ne_eq,not_false_eq_true,if_true,c1,p1,p2,Result.andThen_ok,Sem.run_pure];exact this
   ·cases h
  ·cases h
theorem checkItems_run {el:TypeId} {m:Nat} {l:List Sh} (hl:shapeOf P m el=some l) (h1:l.length=P.cellsOf el) (h2:(P.info? el).isSome=true) (hsc:zfd7 P el=true) {em:Bool} {q:Nat}:
  ∀(n k:Nat) (a pa:List Dat) (e:Bool) (b:List Dat) (w:World),pa.length=k*P.cellsOf el→zra7 (List.replicate n l).flatten a b=some e→
   (forIn (List.range' k n) PUnit.unit fun i _=>do
    Instr.checkKey em (q+1) el (←part el ((pa++a).map valD).toArray (i*(←sizeOf el)))
    pure (ForInStep.yield PUnit.unit):Sem PUnit).run P w=.ok PUnit.unit w
 |0,k,a,pa,e,b,w,hpa,he=>by simp
 |n+1,k,a,pa,e,b,w,hpa,he=>by
  rw[List.replicate_succ,List.flatten_cons]at he;obtain⟨e1,e2,q1,q2,q3⟩:=zoc7 he;obtain⟨n1,n2⟩:=zfe7 q1;have p1:=zdf7 (P:=P) (t:=el) (a:=pa++a) (pre:=pa) (mid:=a.take l.length) (post:=a.drop l.length) (by simp) (by rw[n1,h1]) h2 hl n1.symm w;rw[hpa]at p1;have p2:=zcc7 hsc em q (mkV P el (a.take l.length)) w;have p3:=run_cellsOf h2 w;have:=checkItems_run hl h1 h2 hsc (em:=em) (q:=q) n (k+1) (a.drop l.length) (pa++a.take l.length) e2 (b.drop l.length) w (by rw[List.length_append,n1,hpa,h1,Nat.add_mul,Nat.one_mul]) q2;simp only[List.append_assoc,List.take_append_drop]at this;simp only[List.range'_succ,List.forIn_cons,Sem.run_bind,p3,p1,p2,Result.andThen_ok,Sem.run_pure];exact this
theorem run_checkK {t:TypeId} {sh:List Sh} (hk:keyOk P t=true) (hs:shapeOf P 6 t=some sh) {x:List Dat} {e:Bool} (he:zra7 sh x x=some e) (em:Bool) (w:World):(Instr.checkKey em 10000 t (mkV P t x)).run P w=.ok () w:=by
 rcases underK hk with⟨k,e⟩|e|e|⟨fs,e,hf⟩|⟨n,el,e,hsc⟩
 ·exact zcc7 (by simp[zfd7,e]) em 9999 _ w
 ·exact zcc7 (by simp[zfd7,e]) em 9999 _ w
 ·exact zcc7 (by simp[zfd7,e]) em 9999 _ w
 ·have hsh:=hs;unfold shapeOf at hsh;rw[e]at hsh;simp only at hsh;split at hsh
  ·cases hsh
  ·show (Instr.checkKey em (9999+1) t (mkV P t x)).run P w=.ok () w
   unfold Instr.checkKey;have hm:mkV P t x=.agg (x.map valD).toArray:=by simp[mkV,e]
   rw[hm];simp only[Sem.run_bind,run_underlying e,Result.andThen_ok];rw[←Array.forIn_toList];have:=zmf7 (P:=P) (t:=t) (em:=em) (n:=9998) fs.toList 0 sh hsh hf x [] _ x w rfl he;simp at this;simp[this,Result.andThen]
 ·have hsh:=hs;unfold shapeOf at hsh;rw[e]at hsh;simp only at hsh;split at hsh
  ·cases hsh
  ·split at hsh
   ·rename_i l hl;split at hsh
    ·rename_i hc;simp only[Option.some.injEq]at hsh;subst hsh
     show (Instr.checkKey em (9999+1) t (mkV P t x)).run P w=.ok () w
     unfold Instr.checkKey;have hm:mkV P t x=.agg (x.map valD).toArray:=by simp[mkV,e]
     rw[hm];simp only[Sem.run_bind,run_underlying e,Result.andThen_ok];have:=checkItems_run (P:=P) (em:=em) (q:=9998) hl hc.1 hc.2 hsc n 0 x [] _ x w (by simp) he;simp at this;simp[Std.Legacy.Range.forIn_eq_forIn_range',Std.Legacy.Range.size,this,Result.andThen]
    ·cases hsh
   ·cases hsh
theorem sameNow_ok {F:Froz} {d:TypeDesc} {t:TypeId} {sh:List Sh} (hd:P.underlying t=some d) (hs:shapeOf P 6 t=some sh) {x y:List Dat} {e b:Bool} (he:zra7 sh x y=some e) (h:Instr.sameNow d (mkV P t x) (mkV P t y)=some b):b=e:=by
 have heq:∀w,(Op.equal t (mkV P t x) (mkV P t y)).run P w=.ok e w:=fun w=>run_equalK hs he w
 unfold shapeOf at hs;rw[hd]at hs;cases d<;>simp only[reduceCtorEq]at hs<;>(try (simp[Instr.sameNow]at h;done))
 case int k=>
  simp only[Option.some.injEq]at hs;subst hs;obtain⟨x1,xs,y1,ys,e1,e2,rfl,rfl,h1,h2,rfl⟩:=zfb7 he;obtain⟨rfl,rfl,rfl⟩:=zib7 h2;unfold eqCell at h1;split at h1<;>(try (rename_i hsh;simp at hsh;done))<;>(try (cases h1;done));rename_i k1 n k2 n' hsh;split at h1
  ·rename_i hk;simp only[Option.some.injEq]at h1;subst h1;obtain⟨rfl,rfl⟩:=hk;simp only[mkV,hd,List.map_cons,List.headD_cons,valD,Instr.sameNow,if_true,Option.some.injEq]at h;subst h;simp;rfl
  ·cases h1
 case bool=>
  simp only[Option.some.injEq]at hs;subst hs;obtain⟨x1,xs,y1,ys,e1,e2,rfl,rfl,h1,h2,rfl⟩:=zfb7 he;obtain⟨rfl,rfl,rfl⟩:=zib7 h2;unfold eqCell at h1;split at h1<;>(try (rename_i hsh;simp at hsh;done))<;>(try (cases h1;done));simp only[Option.some.injEq]at h1;subst h1;simp only[mkV,hd,List.map_cons,List.headD_cons,valD,Instr.sameNow,Option.some.injEq]at h;subst h;simp
 case string=>
  simp only[Option.some.injEq]at hs;subst hs;obtain⟨x1,xs,y1,ys,e1,e2,rfl,rfl,h1,h2,rfl⟩:=zfb7 he;obtain⟨rfl,rfl,rfl⟩:=zib7 h2;unfold eqCell at h1;split at h1<;>(try (rename_i hsh;simp at hsh;done))<;>(try (cases h1;done));simp only[Option.some.injEq]at h1;subst h1;simp only[mkV,hd,List.map_cons,List.headD_cons,valD,Instr.sameNow,Option.some.injEq]at h;subst h;rw[Bool.eq_iff_iff,MapKept.bytes_beq];simp
theorem findNow_ok {C0:Ctx} {d:TypeDesc} {t:TypeId} {sh:List Sh} (hd:P.underlying t=some d) (hk:keyOk P t=true) (hs:shapeOf P 6 t=some sh) {kd:Dat} (hag:kd.isAgg=aggK P t) {kv:Value} (hkv:RepV C0.F kd kv):
  ∀(es:List (Dat×AVal)) (ens:List MapEntry) (i:Nat) (r:Option (Nat×Value)) (res:Option Nat),EntsOK C0 es ens→findE (aggK P t) sh kd es=some res→Instr.findNow d kv ens i=some r→
   r=res.bind fun j=>(ens[j]?).map fun e=>(i+j,e.val)
 |[],ens,i,r,res,he,hf,hn=>by
  simp only[EntsOK]at he;subst he;simp only[findE,Option.some.injEq]at hf;simp only[Instr.findNow,Option.some.injEq]at hn;subst hf;subst hn;rfl
 |e::es,ens,i,r,res,he,hf,hn=>by
  simp only[EntsOK]at he;obtain⟨en,ens',rfl,h1,h2,h3⟩:=he;simp only[findE]at hf;split at hf
  ·cases hf
  ·rename_i hae;have hae:e.1.isAgg=aggK P t:=by simpa using hae
   simp only[Instr.findNow]at hn;split at hf
   ·rename_i hq;obtain⟨v1,v2⟩:=zle7 hk hkv h1 hag hae hq;simp only[Option.some.injEq]at hf;subst hf;split at hn
    ·rename_i hb;simp at hn;subst hn;simp
    ·rename_i hb;rw[v1,v2]at hb;have:=sameNow_ok (F:=C0.F) hd hs hq hb;cases this
    ·cases hn
   ·rename_i hq;obtain⟨v1,v2⟩:=zle7 hk hkv h1 hag hae hq;split at hn
    ·rename_i hb;rw[v1,v2]at hb;have:=sameNow_ok (F:=C0.F) hd hs hq hb;cases this
    ·rename_i hb;split at hf
     ·rename_i j hj;simp only[Option.some.injEq]at hf;subst hf;have:=findNow_ok hd hk hs hag hkv es ens' (i+1) r (some j) h3 hj hn;rw[this];simp[Nat.add_assoc,Nat.add_comm 1]
     ·rename_i hj;simp only[Option.some.injEq]at hf;subst hf;have:=findNow_ok hd hk hs hag hkv es ens' (i+1) r none h3 hj hn;rw[this];rfl
     ·cases hf
    ·cases hn
   ·cases hf
theorem zxe7 {C0:Ctx} {t:TypeId} {sh:List Sh} (hk:keyOk P t=true) (hs:shapeOf P 6 t=some sh) {kd:Dat} (hag:kd.isAgg=aggK P t) {kv:Value} (hkv:RepV C0.F kd kv) (w:World):
  ∀(es:List (Dat×AVal)) (ens:List MapEntry) (i:Nat) (res:Option Nat),EntsOK C0 es ens→findE (aggK P t) sh kd es=some res→
   (Instr.findAsking t kv ens i).run P w=.ok (res.bind fun j=>(ens[j]?).map fun e=>(i+j,e.val)) w
 |[],ens,i,res,he,hf=>by
  simp only[EntsOK]at he;subst he;simp only[findE,Option.some.injEq]at hf;subst hf;simp[Instr.findAsking]
 |e::es,ens,i,res,he,hf=>by
  simp only[EntsOK]at he;obtain⟨en,ens',rfl,h1,h2,h3⟩:=he;simp only[findE]at hf;split at hf
  ·cases hf
  ·rename_i hae;have hae:e.1.isAgg=aggK P t:=by simpa using hae
   simp only[Instr.findAsking,Sem.run_bind];split at hf
   ·rename_i hq;obtain⟨v1,v2⟩:=zle7 hk hkv h1 hag hae hq;simp only[Option.some.injEq]at hf;subst hf;have:=run_equalK (P:=P) hs hq w;rw[←v1,←v2]at this;simp[this]
   ·rename_i hq;obtain⟨v1,v2⟩:=zle7 hk hkv h1 hag hae hq;have:=run_equalK (P:=P) hs hq w;rw[←v1,←v2]at this;simp only[this,Result.andThen_ok,Bool.false_eq_true,if_false];split at hf
    ·rename_i j hj;simp only[Option.some.injEq]at hf;subst hf;rw[zxe7 hk hs hag hkv w es ens' (i+1) (some j) h3 hj];simp[Nat.add_assoc,Nat.add_comm 1]
    ·rename_i hj;simp only[Option.some.injEq]at hf;subst hf;rw[zxe7 hk hs hag hkv w es ens' (i+1) none h3 hj];rfl
    ·cases hf
   ·cases hf
theorem run_find {C0:Ctx} {t:TypeId} {sh:List Sh} (hk:keyOk P t=true) (hs:shapeOf P 6 t=some sh) {kd:Dat} (hag:kd.isAgg=aggK P t) {kv:Value} (hkv:RepV C0.F kd kv) (w:World)
  {es:List (Dat×AVal)} {ens:List MapEntry} {res:Option Nat} (he:EntsOK C0 es ens) (hf:findE (aggK P t) sh kd es=some res):
  (Instr.findKey t kv ens).run P w=.ok (res.bind fun j=>(ens[j]?).map fun e=>(j,e.val)) w:=by
 obtain⟨d,hd⟩:=shape_under hs;unfold Instr.findKey;simp only[Sem.run_bind,run_underlying hd,Result.andThen_ok];split
 ·rename_i r hr;have:=findNow_ok hd hk hs hag hkv es ens 0 r res he hf hr;rw[this];simp
 ·have:=zxe7 hk hs hag hkv w es ens 0 res he hf;simpa using this
theorem EntsOK.length {C0:Ctx}:∀{es:List (Dat×AVal)} {ens:List MapEntry},EntsOK C0 es ens→ens.length=es.length
 |[],ens,h=>by simp only[EntsOK]at h;simp[h]
 |e::r,ens,h=>by
  simp only[EntsOK]at h;obtain⟨en,ens',rfl,_,_,h3⟩:=h;simp[h3.length]
theorem EntsOK.get {C0:Ctx}:∀{es:List (Dat×AVal)} {ens:List MapEntry},EntsOK C0 es ens→∀{i:Nat} {e:Dat×AVal},es[i]?=some e→∃en,ens[i]?=some en∧RepV C0.F e.1 en.key∧RepA C0 e.2 en.val
 |[],ens,h,i,e,hi=>by simp at hi
 |x::r,ens,h,i,e,hi=>by
  simp only[EntsOK]at h;obtain⟨en,ens',rfl,h1,h2,h3⟩:=h;cases i with
  |zero=>simp at hi;subst hi;exact⟨en,rfl,h1,h2⟩
  |succ i=>simp at hi;simpa using h3.get hi
theorem zif7 {C0:Ctx}:∀{es:List (Dat×AVal)} {ens:List MapEntry},ens.length=es.length→(∀(i:Nat) (e:Dat×AVal) (en:MapEntry),es[i]?=some e→ens[i]?=some en→RepV C0.F e.1 en.key∧RepA C0 e.2 en.val)→EntsOK C0 es ens
 |[],ens,hl,h=>by simp only[EntsOK];simpa using hl
 |x::r,[],hl,h=>by simp at hl
 |x::r,en::ens,hl,h=>by
  simp only[EntsOK];obtain⟨h1,h2⟩:=h 0 x en rfl rfl;exact⟨en,ens,rfl,h1,h2,zif7 (by simpa using hl) fun i e en hi he=>h (i+1) e en (by simpa using hi) (by simpa using he)⟩
theorem keyE_rep {ag:Bool} {sh:List Sh} {v:AVal} {kd:Dat} {val:Value} (h:keyE ag sh v=some kd) (hr:RepA C v val):RepV C.F kd val∧kd.isAgg=ag∧zra7 sh kd.cells kd.cells=some true:=by
 unfold keyE at h;split at h
 ·rename_i kd' hk;split at h
  ·rename_i hc;simp only[Option.some.injEq]at h;subst h;refine⟨?_,hc⟩;split at hk
   ·rename_i d;simp only[Option.some.injEq]at hk;subst hk;simpa only[RepA]using hr
   ·rename_i l;cases e:aggOf (.agg l) with
    |none=>simp[e]at hk
    |some ds=>
     simp[e]at hk;subst hk;obtain⟨cs,rfl,h2⟩:=aggOf_rep hr e;exact repV_agg h2
   ·cases hk
  ·cases h
 ·cases h
theorem mapT_spec {t kt et:TypeId} {sh:List Sh} {q:TI} (h:mapT P t=some (kt,sh,et,q)):P.underlying t=some (.map kt et)∧shapeOf P 6 kt=some sh∧tI P et=some q∧keyOk P kt=true:=by
 unfold mapT at h;split at h
 ·rename_i k e hu;split at h
  ·rename_i sh' q' h1 h2;split at h
   ·rename_i h3;simp only[Option.some.injEq,Prod.mk.injEq]at h;obtain⟨rfl,rfl,rfl,rfl⟩:=h;exact⟨hu,h1,h2,h3⟩
   ·cases h
  ·cases h
 ·cases h
theorem mref_rep {id:Id} {es:List (Dat×AVal)} {val:Value} (hI:Inv B C) (hρ:C.ρ id=some (.blk (.map es))) (hr:RepA C (.bref false id) val):
  val=.map (some (C.μ id).b)∧∃ens clock,C.w.heap[(C.μ id).b]?=some (.map ens clock)∧BornOK ens clock∧EntsOK C es ens.toList:=by
 simp only[RepA]at hr;obtain⟨b,h1,h2⟩:=hr;have:b=(C.μ id).b:=by simpa[blkAt,hρ]using h1.symm
 subst this;exact⟨by simpa using h2,(hI.objs id _ hρ).2⟩
theorem zero_rep {et:TypeId} {q:TI} {zero:List AVal} {z:Dat} (hq:tI P et=some q) (hz:q.zero=some zero) (hd:zrc7 zero=some z) (hag:zeroAg P et=(zrc7 zero).map Dat.isAgg) (F:Froz):
  ∃v:Value,(∀w,(zeroValue et).run P w=.ok v w)∧RepV F z v∧∀C:Ctx,C.F=F→RepA C (zeroV zero z) v:=by
 obtain⟨i,d,h1,_,_,_,_,h6⟩:=tI_info hq;rw[hz]at h6;cases e:i.zero with
 |none=>simp[e]at h6
 |some v=>
  rw[e]at h6
  have hv:zqc7 v=z.isAgg:=by
   rw[hd]at hag;simp only[zeroAg,h1,Option.bind_some,e,Option.map_some,Option.some.injEq]at hag;rw[←hag];cases v<;>rfl
  have hz2:RepV F z v:=⟨zeroDat_rep hd h6.symm,hv⟩;refine⟨v,fun w=>by simp[zeroValue,run_typeInfo h1,e],hz2,fun C hC=>?_⟩;unfold zeroV;split
  ·simp only[zrc7,Option.some.injEq]at hd;subst hd;simp only[Option.bind_some,cstCells,zva7 hv]at h6;have h7:zla7 ([v].map cst)=some [.nils]:=h6.symm;have:=(cst_reps (C:=C) h7).1;simp only[RepL]at this;obtain⟨c,cs',e1,e2,_⟩:=this;cases e1;exact e2
  ·simp only[RepA];rw[hC];exact hz2
theorem op_lkp (hI:Inv B C) (hE:RepE C g a) {t kt et:TypeId} {m k:Operand} {ok:Bool} {am ak:AX} {sh:List Sh} {q:TI} {zero:List AVal} {v:AVal} (ho:o.op=.lookup t m k ok) (hm:cX m=some am) (hk:cX k=some ak) (hT:mapT P t=some (kt,sh,et,q))
  (hz:q.zero=some zero) (hag:zeroAg P et=(zrc7 zero).map Dat.isAgg) (h:lkpE C.ρ (aggK P kt) sh zero ok (evX g am) (evX g ak)=some v):Does P o a C.w (Owes B C v []):=by
 obtain⟨t1,t2,t3,t4⟩:=mapT_spec hT;have hrm:=zea7 hE hm;have hrk:=zea7 hE hk;unfold lkpE at h;split at h
 ·rename_i id kd z e1 e2 e3;rw[e1]at hrm;obtain⟨k1,k2,k3⟩:=keyE_rep e2 hrk;split at h
  ·rename_i es hρ;obtain⟨m1,ens,clock,m2,mb,m3⟩:=mref_rep hI hρ hrm;obtain⟨zv,z1,z2,z3⟩:=zero_rep t3 hz e3 hag C.F;have hck:=run_checkK (P:=P) t4 t2 k3 ens.isEmpty C.w;rw[←(zle7 t4 k1 k1 k2 k2 k3).1]at hck
   have hrun:∀res,findE (aggK P kt) sh kd es=some res→(Instr.lookup t (a.eval m) (a.eval k) ok).run P C.w=
     .ok (let p:Value×Bool:=match res.bind fun j=>(ens.toList[j]?).map fun e=>(j,e.val) with|some (_,v)=>(v,true)|none=>(zv,false);if ok then .tuple #[p.1,.bool p.2] else p.1) C.w:=by
    intro res hres;have hf:=run_find (P:=P) t4 t2 k2 k1 C.w m3 hres;rw[m1];unfold Instr.lookup;simp only[Sem.run_bind,run_underlying t1,Result.andThen_ok,MapKept.run_getObj_map m2,Sem.run_pure,hck,hf];cases hx:(res.bind fun j=>(ens.toList[j]?).map fun e=>(j,e.val)) with
    |none=>simp[z1,Result.andThen]
    |some p=>simp[Result.andThen]
   split at h
   ·rename_i i hi;split at h
    ·rename_i e he;simp only[Option.some.injEq]at h;subst h;obtain⟨en,n1,n2,n3⟩:=m3.get he;refine zfa7 hI (val:=if ok then .tuple #[en.val,.bool true] else en.val) ?_ ?_
     ·have:=hrun _ hi;simp only[Option.bind_some,n1,Option.map_some]at this;simp only[execOp,ho,Sem.run_bind,this,Result.andThen_ok,Sem.run_pure]
     ·cases ok
      ·simpa using n3
      ·simp only[if_true,RepA];refine⟨_,rfl,?_⟩;simp only[RepL,RepA];exact⟨_,_,rfl,n3,_,_,rfl,by simp[RepV,RepD,Value.cells,zqc7],rfl⟩
    ·cases h
   ·rename_i hi;simp only[Option.some.injEq]at h;subst h;refine zfa7 hI (val:=if ok then .tuple #[zv,.bool false] else zv) ?_ ?_
    ·have:=hrun _ hi;simp only[Option.bind_none]at this;simp only[execOp,ho,Sem.run_bind,this,Result.andThen_ok,Sem.run_pure]
    ·have z3:=z3 C rfl;cases ok
     ·simpa using z3
     ·simp only[if_true,RepA];refine⟨_,rfl,?_⟩;simp only[RepL,RepA];exact⟨_,_,rfl,z3,_,_,rfl,by simp[RepV,RepD,Value.cells,zqc7],rfl⟩
   ·cases h
  ·cases h
 ·cases h
theorem op_lenM (hI:Inv B C) (hE:RepE C g a) {c:Call} {x:Operand} {ax:AX} {v:AVal} {t kt et:TypeId} (ho:o.op=.call c) (hc:c.callee=.builtin .len) (ha:c.args=#[x]) (ht:c.argTypes[0]?=some t)
  (hu:P.underlying t=some (.map kt et)) (hx:cX x=some ax) (h:lenME C.ρ (evX g ax)=some v):Does P o a C.w (Owes B C v []):=by
 have hr:=zea7 hE hx;unfold lenME at h;split at h
 ·rename_i id e1;rw[e1]at hr;split at h
  ·rename_i es hρ;simp only[Option.some.injEq]at h;subst h;obtain⟨m1,ens,clock,m2,mb,m3⟩:=mref_rep hI hρ hr;refine zfa7 hI (val:=goInt ens.size) ?_ ?_
   ·have hrun:(Builtin.len_ c.argTypes o.type #[a.eval x]).run P C.w=.ok (goInt ens.size) C.w:=by
     unfold Builtin.len_;simp[ht,m1,run_underlying hu,MapKept.run_getObj_map m2]
    simp[execOp,ho,resolve,hc,ha,invoke,builtin,hrun]
   ·have:=m3.length;simp only[RepA];have e:ens.size=es.length:=by rw[←Array.length_toList,this]
    rw[e];simp[RepV,RepD,Value.cells,zqc7,goInt]
  ·cases h
 ·cases h
theorem putObj_kept {w:World} {b:Nat} {x y:Go.Obj} (h:w.heap[b]?=some x) (hx:nc w b) (hy:∀c t fr,y≠.cells c t fr) (T:Cells):
  KeptB w { w with heap:=w.heap.setIfInBounds b y } T (fun i=>i=b):=by
 have hlt:b<w.heap.size:=(Array.getElem?_eq_some_iff.1 h).1;refine⟨rfl,rfl,fun i hi hne=>.inr ?_,fun i hi e=>?_,fun a _=>?_,by simp⟩
 ·simp only;rw[Array.getElem?_setIfInBounds_ne (Ne.symm hne)]
 ·subst e;refine⟨hx,fun c t fr e=>?_⟩;simp only[Array.getElem?_setIfInBounds_self,hlt,if_true,Option.some.injEq]at e;exact hy _ _ _ e
 ·unfold World.frozen?;by_cases e:a.block=b
  ·simp only[e,Array.getElem?_setIfInBounds_self,hlt,if_true]
   have h2:∀z:Go.Obj,(∀c t fr,z≠.cells c t fr)→(match some z with|some (.cells _ _ (lo,hi))=>decide (lo≤a.off)&&decide (a.off<hi)|_=>false)=false:=by
    intro z hz;cases z<;>simp_all
   rw[h];exact (h2 y hy).trans (h2 x (fun c t fr e=>hx c t fr (by rw[h,e]))).symm
  ·rw[Array.getElem?_setIfInBounds_ne (fun x=>e x.symm)]
theorem Inv.turn (hI:Inv B C) {id:Id} {x:Blk} (h:C.ρ id=some (.blk x)) (y:Go.Obj) (hy:∀c t fr,y≠.cells c t fr) (x':Blk)
  (hok:∀C':Ctx,C'.w={ C.w with heap:=C.w.heap.setIfInBounds (C.μ id).b y }→C'.F=C.F→Grow C C'→BlkOK C' (C.μ id).b x'):
  let C':Ctx:={ C with w:={ C.w with heap:=C.w.heap.setIfInBounds (C.μ id).b y },ρ:=updL C.ρ [(id,.blk x')] }
  Inv B C'∧Grow C C':=by
 intro C';obtain⟨h0,h1⟩:=hI.objs id _ h;obtain⟨hlt,hnc⟩:=h1.nc;obtain⟨ob,hob⟩:∃ob,C.w.heap[(C.μ id).b]?=some ob:=⟨_,Array.getElem?_eq_getElem hlt⟩
 have hg:Grow C C':=by
  refine⟨fun _ _ _ h=>h,fun i L _ hb=>?_,fun i A _ ha=>?_,fun i b _ hb=>?_⟩
  ·by_cases e:id=i
   ·subst e;simp[boxAt,h]at hb
   ·simpa[boxAt,C',updL,e]using hb
  ·by_cases e:id=i
   ·subst e;simp[arrAt,h]at ha
   ·exact⟨A,by simpa[arrAt,C',updL,e]using ha,Nat.le_refl _,fun _=>⟨rfl,rfl,Nat.le_refl _⟩⟩
  ·by_cases e:id=i
   ·subst e;simpa[blkAt,h,C',updL]using hb
   ·simpa[blkAt,C',updL,e]using hb
 refine⟨?_,hg⟩;refine hI.stepB (C':=C') id (fun _ _=>False) (fun i=>i=(C.μ id).b) (fun _ _ h=>h.elim) (putObj_kept hob hnc hy _) (fun b hb=>⟨x,h,hb⟩) (fun b o v hv=>.inl hv) (fun b o v hv e=>by simp only[C']at hv;rw[e]at hv;cases hv) ?_ hg ?_ ?_ ?_
 ·intro i hi;refine⟨?_,rfl⟩;simp only[C',updL];rw[if_neg (fun e=>hi e.symm)]
 ·intro o' ho';have:o'=.blk x':=by simpa[C',updL]using ho'.symm
  subst this;exact⟨h0,hok C' rfl rfl hg⟩
 ·intro o' ho' hw;have:o'=.blk x':=by simpa[C',updL]using ho'.symm
  subst this;simp[Obj.own]at hw
 ·intro x2 _;exact .inr ⟨x,h,rfl⟩
theorem Inv.newBlk (hI:Inv B C) {id:Id} (h:C.ρ id=none) (y:Go.Obj) (hy:∀c t fr,y≠.cells c t fr) (x:Blk)
  (hok:∀C':Ctx,C'.w=C.w.alloc y→C'.F=C.F→Grow C C'→BlkOK C' C.w.heap.size x):
  let C':Ctx:={ w:=C.w.alloc y,F:=C.F,μ:=fun i=>if i=id then ⟨C.w.heap.size,0,0⟩ else C.μ i,ρ:=fun i=>if i=id then some (.blk x) else C.ρ i }
  Inv B C'∧Grow C C'∧C'.ρ=updL C.ρ [(id,.blk x)]:=
 hI.allocO (C.w.alloc y) (Kept.allocN _ _ _ hy) id (.blk x) ⟨C.w.heap.size,0,0⟩ ⟨by simp[h],by simp[h],fun A hA=>by simp[arrAt,h]at hA⟩ (.inr rfl) (fun _ _=>Nat.le_refl _)
  (fun C' e1 e2 hg=>⟨rfl,hok C' e1 e2 hg⟩)
theorem alloc_new (w:World) (o:Go.Obj):(w.alloc o).heap[w.heap.size]?=some o:=by
 show (w.heap.push o)[w.heap.size]?=some o
 simp
theorem op_mkMap (hI:Inv B C) {t:TypeId} {site:Nat} (ho:o.op=.makeMap t none) (hid:C.ρ (nid site)=none):Does P o a C.w (Owes B C (.bref false (nid site)) [(nid site,.blk (.map []))]):=by
 obtain⟨h1,h2,h3⟩:=hI.newBlk hid (.map #[] 0) (by simp) (.map []) (fun C' e1 e2 hg=>⟨#[],0,by rw[e1];exact alloc_new _ _,bornOK_nil,by simp[EntsOK]⟩);refine .inl ⟨.map (some C.w.heap.size),C.w.alloc (.map #[] 0),?_,_,rfl,h3,h1,h2,?_⟩
 ·have hrun:(Instr.makeMap t none).run P C.w=.ok (.map (some C.w.heap.size)) (C.w.alloc (.map #[] 0)):=rfl;simp[execOp,ho,hrun,Result.andThen]
 ·simp only[RepA];exact⟨C.w.heap.size,by simp[blkAt],by simp⟩
theorem sameBits_dat {F:Froz} {sh:List Sh}:∀{x:List Dat} {e:Bool} {v u:List Value},zra7 sh x x=some e→v=x.map valD→∀n,(v.zip v).all (fun (p:Value×Value)=>Instr.sameBits n p.1 p.2)=true:=by
 induction sh with
 |nil=>intro x e v u h hv n;obtain⟨rfl,_,_⟩:=zib7 h;subst hv;rfl
 |cons s r ih=>
  intro x e v u h hv n;obtain⟨a,xs,b,ys,e1,e2,h0,h1,h2,h3,rfl⟩:=zfb7 h;subst h0;simp only[List.cons.injEq]at h1;obtain⟨rfl,rfl⟩:=h1;subst hv;simp only[List.map_cons,List.zip_cons_cons,List.all_cons,Bool.and_eq_true];refine⟨?_,ih (u:=u) h3 rfl n⟩;unfold eqCell at h2;split at h2<;>(try (cases h2;done))<;>cases n<;>simp[valD,Instr.sameBits,MapKept.bytes_beq]
theorem eqCells_same:∀{sh:List Sh} {x y:List Dat},zra7 sh x y=some true→x=y
 |[],x,y,h=>by obtain⟨rfl,rfl,_⟩:=zib7 h;rfl
 |s::r,x,y,h=>by
  obtain⟨a,xs,b,ys,e1,e2,rfl,rfl,h2,h3,h4⟩:=zfb7 h;have h4:e1=true∧e2=true:=by simpa using h4.symm
  obtain⟨rfl,rfl⟩:=h4;rw[eqCells_same h3]
  congr 1
  unfold eqCell at h2;split at h2
  ·split at h2
   ·rename_i hk;simp at h2;rw[hk.1,hk.2,h2]
   ·cases h2
  ·simp at h2;rw[h2]
  ·simp at h2;rw[h2]
  ·cases h2
theorem findE_some {ag:Bool} {sh:List Sh} {kd:Dat}:∀{es:List (Dat×AVal)} {i:Nat},findE ag sh kd es=some (some i)→∃e,es[i]?=some e∧e.1.isAgg=ag∧zra7 sh kd.cells e.1.cells=some true
 |[],i,h=>by simp[findE]at h
 |e::r,i,h=>by
  simp only[findE]at h;split at h
  ·cases h
  ·rename_i ha;have ha:e.1.isAgg=ag:=by simpa using ha
   split at h
   ·rename_i hq;simp at h;subst h;exact⟨e,rfl,ha,hq⟩
   ·split at h
    ·rename_i j hj;simp at h;subst h;obtain⟨e',h1,h2⟩:=findE_some hj;exact⟨e',by simpa using h1,h2⟩
    ·simp at h
    ·cases h
   ·cases h
theorem run_keyStays {t:TypeId} {sh:List Sh} (hk:keyOk P t=true) {F:Froz} {x:Dat} {v:Value} (hv:RepV F x v) (ax:x.isAgg=aggK P t) (he:zra7 sh x.cells x.cells=some true) (w:World):(Instr.keyThatStays v v).run P w=.ok v w:=by
 have hb:Instr.sameBits 10000 v v=true:=by
  obtain⟨h1,_⟩:=zne7 he hv.1.cellsAgg hv.1.cellsAgg;cases hag:zqc7 v with
  |true=>
   obtain⟨cs,rfl⟩:∃cs,v=.agg cs:=by cases v<;>simp[zqc7]at hag;exact⟨_,rfl⟩
   simp only[Value.cells]at h1
   show Instr.sameBits (9999+1) (.agg cs) (.agg cs)=true
   simp only[Instr.sameBits,beq_self_eq_true,Bool.true_and];exact sameBits_dat (F:=F) (u:=[]) he h1 9999
  |false=>
   rw[zva7 hag]at h1;have:=sameBits_dat (F:=F) (u:=[]) he h1 10000;simpa using this
 simp[Instr.keyThatStays,hb]
def putM (ag:Bool) (sh:List Sh) (kd:Dat) (Y:AVal) (es:List (Dat×AVal)):Option (List (Dat×AVal)):=
 match findE ag sh kd es with
 |some (some i)=>some (es.set i (kd,Y))
 |some none=>some (es++[(kd,Y)])
 |none=>none
theorem mup_put (hI:Inv B C) {t kt et:TypeId} {m k x:Operand} {sh:List Sh} {q:TI} (ho:o.op=.mapUpdate t m k x) (hT:mapT P t=some (kt,sh,et,q))
  {id:Id} {kd:Dat} {Y:AVal} {es es':List (Dat×AVal)} (hrm:RepA C (.bref false id) (a.eval m)) (k1:RepV C.F kd (a.eval k)) (k2:kd.isAgg=aggK P kt) (k3:zra7 sh kd.cells kd.cells=some true)
  (hρ:C.ρ id=some (.blk (.map es))) (hY:RepA C Y (a.eval x)) (h:putM (aggK P kt) sh kd Y es=some es'):Does P o a C.w (Owes B C (.tup []) [(id,.blk (.map es'))]):=by
 obtain⟨t1,t2,t3,t4⟩:=mapT_spec hT;obtain⟨m1,ens,clock,m2,mb,m3⟩:=mref_rep hI hρ hrm;have hck:=run_checkK (P:=P) t4 t2 k3 false C.w;rw[←(zle7 t4 k1 k1 k2 k2 k3).1]at hck
 have fin:∀(ens':Array MapEntry) (clock':Nat) (es':List (Dat×AVal)),BornOK ens' clock'→EntsOK C es' ens'.toList→(Instr.mapUpdate t (a.eval m) (a.eval k) (a.eval x)).run P C.w=.ok () { C.w with heap:=C.w.heap.setIfInBounds (C.μ id).b (.map ens' clock') }→
   Does P o a C.w (Owes B C (.tup []) [(id,.blk (.map es'))]):=by
  intro ens' clock' es' hb h1 h2;have hlt:(C.μ id).b<C.w.heap.size:=(Array.getElem?_eq_some_iff.1 m2).1;have ht:=hI.turn hρ (.map ens' clock') (by simp) (.map es') (fun C' e1 e2 hg=>⟨ens',clock',by rw[e1];simp[hlt],hb,h1.mono hg⟩);refine .inr (.inl ⟨{ C.w with heap:=C.w.heap.setIfInBounds (C.μ id).b (.map ens' clock') },?_,_,rfl,rfl,ht.1,ht.2,?_⟩)
  ·simp[execOp,ho,h2,Result.andThen]
  ·simp[RepA,undef,RepL]
 unfold putM at h;split at h
 ·rename_i i hi;simp only[Option.some.injEq]at h;subst h;obtain⟨e,he,hae,heq⟩:=findE_some hi;obtain⟨en,n1,n2,n3⟩:=m3.get he
  have hsame:en.key=a.eval k:=by
   have hcc:=eqCells_same heq;have hkk:=zle7 t4 k1 n2 k2 hae heq;rw[hkk.2,←hcc,←hkk.1]
  have hf:=run_find (P:=P) t4 t2 k2 k1 C.w m3 hi;simp only[Option.bind_some,n1,Option.map_some]at hf;have hst:=run_keyStays (P:=P) t4 k1 k2 k3 C.w;have n1':ens[i]?=some en:=by simpa using n1
  have hilt:i<ens.size:=(Array.getElem?_eq_some_iff.1 n1').1;refine fin (ens.modify i fun e=>{ e with key:=a.eval k,val:=a.eval x }) clock (es.set i (kd,Y)) (mb.modify i _ fun _=>rfl) ?_ ?_
  ·refine zif7 (by simp[m3.length]) fun j e' en' hj hen=>?_
   rw[List.getElem?_set]at hj;simp only[Array.toList_modify,List.getElem?_modify]at hen;by_cases hij:i=j
   ·subst hij;rw[if_pos rfl]at hj;have hlt:i<es.length:=(List.getElem?_eq_some_iff.1 he).1;rw[if_pos hlt]at hj;simp only[Option.some.injEq]at hj;subst hj;simp[n1]at hen;subst hen;exact⟨k1,hY⟩
   ·rw[if_neg hij]at hj;simp[hij]at hen;obtain⟨en2,q1,q2,q3⟩:=m3.get hj;have hen':ens.toList[j]?=some en':=by simpa using hen
    rw[hen']at q1;cases q1;exact⟨q2,q3⟩
  ·rw[m1];unfold Instr.mapUpdate;simp only[Sem.run_bind,run_underlying t1,Result.andThen_ok,MapKept.run_getObj_map m2,hck,hf,n1',Option.map_some,Option.getD_some,hsame,hst,MapKept.run_setObj_map _ m2]
 ·rename_i hi;simp only[Option.some.injEq]at h;subst h;have hf:=run_find (P:=P) t4 t2 k2 k1 C.w m3 hi;simp only[Option.bind_none]at hf;refine fin (ens.push { key:=a.eval k,val:=a.eval x,born:=clock }) (clock+1) (es++[(kd,Y)]) (mb.push _ rfl) ?_ ?_
  ·refine zif7 (by simp[m3.length]) fun j e' en' hj hen=>?_
   simp only[Array.toList_push]at hen;have hl:=m3.length;by_cases hjl:j<es.length
   ·rw[List.getElem?_append_left hjl]at hj;rw[List.getElem?_append_left (by omega)]at hen;obtain⟨en2,q1,q2,q3⟩:=m3.get hj;rw[hen]at q1;cases q1;exact⟨q2,q3⟩
   ·rw[List.getElem?_append_right (by omega)]at hj;rw[List.getElem?_append_right (by omega),hl]at hen;cases hjj:j-es.length with
    |zero=>
     rw[hjj]at hj hen;simp at hj hen;subst hj;subst hen;exact⟨k1,hY⟩
    |succ n=>rw[hjj]at hj;simp at hj
  ·rw[m1];unfold Instr.mapUpdate;simp only[Sem.run_bind,run_underlying t1,Result.andThen_ok,MapKept.run_getObj_map m2,hck,hf,MapKept.run_setObj_map _ m2]
 ·cases h
theorem op_mup (hI:Inv B C) (hE:RepE C g a) {t kt et:TypeId} {m k x:Operand} {am ak av:AX} {sh:List Sh} {q:TI} {upd:List (Id×Obj)} (ho:o.op=.mapUpdate t m k x) (hm:cX m=some am) (hk:cX k=some ak) (hx:cX x=some av) (hT:mapT P t=some (kt,sh,et,q))
  (h:mupE C.ρ (aggK P kt) sh (evX g am) (evX g ak) (evX g av)=some upd):Does P o a C.w (Owes B C (.tup []) upd):=by
 obtain⟨t1,t2,t3,t4⟩:=mapT_spec hT;have hrm:=zea7 hE hm;have hrk:=zea7 hE hk;have hrx:=zea7 hE hx;unfold mupE at h;split at h
 ·rename_i id kd d fs e1 e2 e3;rw[e1]at hrm;obtain⟨k1,k2,k3⟩:=keyE_rep e2 hrk;split at h
  ·rename_i es hρ;obtain⟨m1,ens,clock,m2,mb,m3⟩:=mref_rep hI hρ hrm;obtain⟨C1,f1,f2,f3,f4,f5,f6⟩:=hI.freeze fs;have hd1:=dec_rep f5.F f6 e3 hrx
   have hno:id∉(frz C.ρ fs).map (·.1):=by
    intro hmem
    have:∀(l:List Id),id∈(frz C.ρ l).map (·.1)→∃sz ver fz es',C.ρ id=some (.arr sz ver fz es'):=by
     intro l
     induction l with
     |nil=>intro h;simp[frz]at h
     |cons i r ih=>
      intro h;simp only[frz]at h;split at h
      ·rename_i sz ver fz es' hi;simp only[List.map_cons,List.mem_cons]at h;rcases h with h|h
       ·subst h;exact⟨_,_,_,_,hi⟩
       ·exact ih h
      ·exact ih h
    obtain⟨sz,ver,fz,es',he⟩:=this fs hmem;rw[hρ]at he;cases he
   have hρ1:C1.ρ id=some (.blk (.map es)):=by
    rw[f3]
    have:∀(l:List (Id×Obj)) (ρ:Look),id∉l.map (·.1)→updL ρ l id=ρ id:=by
     intro l
     induction l with
     |nil=>intro ρ _;rfl
     |cons p r ih=>
      intro ρ hn;simp only[List.map_cons,List.mem_cons,not_or]at hn;simp only[updL];rw[ih _ hn.2,if_neg (fun e=>hn.1 e.symm)]
    rw[this _ _ hno,hρ]
   have hck:=run_checkK (P:=P) t4 t2 k3 false C.w;rw[←(zle7 t4 k1 k1 k2 k2 k3).1]at hck
   have fin:∀(ens':Array MapEntry) (clock':Nat) (es':List (Dat×AVal)),BornOK ens' clock'→EntsOK C1 es' ens'.toList→(Instr.mapUpdate t (a.eval m) (a.eval k) (a.eval x)).run P C.w=.ok () { C.w with heap:=C.w.heap.setIfInBounds (C.μ id).b (.map ens' clock') }→
     Does P o a C.w (Owes B C (.tup []) (frz C.ρ fs++[(id,.blk (.map es'))])):=by
    intro ens' clock' es' hb h1 h2;have hlt:(C.μ id).b<C.w.heap.size:=(Array.getElem?_eq_some_iff.1 m2).1;have ht:=f4.turn hρ1 (.map ens' clock') (by simp) (.map es') (fun C' e1 e2 hg=>⟨ens',clock',by rw[e1,f2,f1];simp[hlt],hb,h1.mono hg⟩);refine .inr (.inl ⟨{ C.w with heap:=C.w.heap.setIfInBounds (C.μ id).b (.map ens' clock') },?_,_,?_,?_,ht.1,f5.trans ht.2,?_⟩)
    ·simp[execOp,ho,h2,Result.andThen]
    ·simp only[f1,f2]
    ·rw[zze7,←f3]
    ·simp[RepA,undef,RepL]
   split at h
   ·rename_i i hi;simp only[Option.some.injEq]at h;subst h;obtain⟨e,he,hae,heq⟩:=findE_some hi;obtain⟨en,n1,n2,n3⟩:=m3.get he
    have hsame:en.key=a.eval k:=by
     have hcc:=eqCells_same heq;have hkk:=zle7 t4 k1 n2 k2 hae heq;rw[hkk.2,←hcc,←hkk.1]
    have hf:=run_find (P:=P) t4 t2 k2 k1 C.w m3 hi;simp only[Option.bind_some,n1,Option.map_some]at hf;have hst:=run_keyStays (P:=P) t4 k1 k2 k3 C.w;have n1':ens[i]?=some en:=by simpa using n1
    have hilt:i<ens.size:=(Array.getElem?_eq_some_iff.1 n1').1;refine fin (ens.modify i fun e=>{ e with key:=a.eval k,val:=a.eval x }) clock (es.set i (kd,.dat d)) (mb.modify i _ fun _=>rfl) ?_ ?_
    ·refine zif7 (by simp[m3.length]) fun j e' en' hj hen=>?_
     rw[List.getElem?_set]at hj;simp only[Array.toList_modify,List.getElem?_modify]at hen;by_cases hij:i=j
     ·subst hij;rw[if_pos rfl]at hj;have hlt:i<es.length:=(List.getElem?_eq_some_iff.1 he).1;rw[if_pos hlt]at hj;simp only[Option.some.injEq]at hj;subst hj;simp[n1]at hen;subst hen;exact⟨k1.mono f5.F,by simpa only[RepA]using hd1⟩
     ·rw[if_neg hij]at hj;simp[hij]at hen;obtain⟨en2,q1,q2,q3⟩:=m3.get hj;have hen':ens.toList[j]?=some en':=by simpa using hen
      rw[hen']at q1;cases q1;exact⟨q2.mono f5.F,q3.grow f5⟩
    ·rw[m1];unfold Instr.mapUpdate;simp only[Sem.run_bind,run_underlying t1,Result.andThen_ok,MapKept.run_getObj_map m2,hck,hf,n1',Option.map_some,Option.getD_some,hsame,hst,MapKept.run_setObj_map _ m2]
   ·rename_i hi;simp only[Option.some.injEq]at h;subst h;have hf:=run_find (P:=P) t4 t2 k2 k1 C.w m3 hi;simp only[Option.bind_none]at hf;refine fin (ens.push { key:=a.eval k,val:=a.eval x,born:=clock }) (clock+1) (es++[(kd,.dat d)]) (mb.push _ rfl) ?_ ?_
    ·refine zif7 (by simp[m3.length]) fun j e' en' hj hen=>?_
     simp only[Array.toList_push]at hen;have hl:=m3.length;by_cases hjl:j<es.length
     ·rw[List.getElem?_append_left hjl]at hj;rw[List.getElem?_append_left (by omega)]at hen;obtain⟨en2,q1,q2,q3⟩:=m3.get hj;rw[hen]at q1;cases q1;exact⟨q2.mono f5.F,q3.grow f5⟩
     ·rw[List.getElem?_append_right (by omega)]at hj;rw[List.getElem?_append_right (by omega),hl]at hen;cases hjj:j-es.length with
      |zero=>
       rw[hjj]at hj hen;simp at hj hen;subst hj;subst hen;exact⟨k1.mono f5.F,by simpa only[RepA]using hd1⟩
      |succ n=>rw[hjj]at hj;simp at hj
    ·rw[m1];unfold Instr.mapUpdate;simp only[Sem.run_bind,run_underlying t1,Result.andThen_ok,MapKept.run_getObj_map m2,hck,hf,MapKept.run_setObj_map _ m2]
   ·cases h
  ·cases h
 ·cases h
end
end Go.Am
