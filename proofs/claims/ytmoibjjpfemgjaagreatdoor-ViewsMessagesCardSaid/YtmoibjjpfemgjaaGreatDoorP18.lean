/- Parts of the proofs of the statement, joined and made short: AmWalk AmMath AmLoop. -/
import Derived.Test.YtmoibjjpfemgjaaGreatDoorP17
import Derived.Test.YtmoibjjpfemgjaaGreatDoorP3
set_option linter.unusedVariables false
set_option linter.unusedSimpArgs false
set_option linter.unusedSectionVars false
namespace Go.Am
variable [Glob]
def bnd {α β:Type} (x:Option α) (f:α→Option β):Option β:=match x with
 |some a=>f a
 |none=>none
@[congr] theorem bnd_congr {α β:Type} {x x':Option α} {f:α→Option β} (h:x=x'):bnd x f=bnd x' f:=by rw[h]
theorem bnd_some {α β:Type} (a:α) (f:α→Option β):bnd (some a) f=f a:=rfl
theorem bnd_none {α β:Type} (f:α→Option β):bnd none f=none:=rfl
section
variable (K:Orc)
@[congr] theorem exec_congr {K:Orc} {c:AC} {s s':St} (h:s=s'):exec K c s=exec K c s':=by rw[h]
@[congr] theorem runOps_congr {K:Orc} {i i':Nat} {l:List AO} {s s':St} {lg lg':Log} (hi:i=i') (h:s=s') (hl:lg=lg'):zhd7 K i l s lg=zhd7 K i' l s' lg':=by rw[hi,h,hl]
noncomputable def seqK (b:AC):AEx×St→Option (AEx×St)
 |(.normal,s)=>exec K b s
 |(.exit id,s)=>some (.exit id,s)
 |(.ret,s)=>some (.ret,s)
def blkK (id:Nat):AEx×St→Option (AEx×St)
 |(.normal,s)=>some (.normal,s)
 |(.exit id',s)=>if id'=id then some (.normal,s) else some (.exit id',s)
 |(.ret,s)=>some (.ret,s)
noncomputable def condK (a b:AC) (s:St):AVal→Option (AEx×St)
 |.dat (.bool t)=>match t with
  |true=>exec K a s
  |false=>exec K b s
 |_=>none
@[congr] theorem condK_congr {K:Orc} {a b:AC} {s s':St} {v v':AVal} (hs:s=s') (h:v=v'):condK K a b s v=condK K a b s' v':=by rw[hs,h]
theorem seqK_n (b:AC) (s:St):seqK K b (.normal,s)=exec K b s:=rfl
theorem seqK_e (b:AC) (s:St) (id:Nat):seqK K b (.exit id,s)=some (.exit id,s):=rfl
theorem seqK_r (b:AC) (s:St):seqK K b (.ret,s)=some (.ret,s):=rfl
theorem blkK_n (id:Nat) (s:St):blkK id (.normal,s)=some (.normal,s):=rfl
theorem blkK_e (id id':Nat) (s:St):blkK id (.exit id',s)=if id'=id then some (.normal,s) else some (.exit id',s):=rfl
theorem blkK_r (id:Nat) (s:St):blkK id (.ret,s)=some (.ret,s):=rfl
theorem condK_t (a b:AC) (s:St):condK K a b s (.dat (.bool true))=exec K a s:=rfl
theorem condK_f (a b:AC) (s:St):condK K a b s (.dat (.bool false))=exec K b s:=rfl
theorem exec_skip (s:St):exec K .skip s=some (.normal,s):=rfl
theorem exec_exit (id:Nat) (s:St):exec K (.exit id) s=some (.exit id,s):=rfl
theorem exec_ret (s:St):exec K .ret s=some (.ret,s):=rfl
theorem exec_reg (r:AReg) (s:St):exec K (.reg r) s=bnd (runReg K r s) fun s=>some (.normal,s):=by
 simp only[exec,bnd];split<;>simp_all
theorem exec_seq (a b:AC) (s:St):exec K (.seq a b) s=bnd (exec K a s) (seqK K b):=by
 simp only[exec,bnd];cases exec K a s with
 |none=>rfl
 |some r=>obtain⟨x,s'⟩:=r;cases x<;>rfl
theorem exec_block (id:Nat) (c:AC) (s:St):exec K (.block id c) s=bnd (exec K c s) (blkK id):=by
 simp only[exec,bnd];cases exec K c s with
 |none=>rfl
 |some r=>obtain⟨x,s'⟩:=r;cases x<;>rfl
theorem exec_cond (x:AX) (a b:AC) (s:St):exec K (.cond x a b) s=condK K a b s (evX (gE s.env) x):=by
 simp only[exec];generalize evX (gE s.env) x=v;cases v with
 |dat d=>
  cases d with
  |bool t=>cases t<;>rfl
  |_=>rfl
 |_=>rfl
theorem exec_loop (c:AC) (s:St):exec K (.loop c) s=zga7 (exec K c) s:=rfl
def opsK (i:Nat) (o:AO) (r:List AO) (s:St) (lg:Log) (out:TOut):Option (St×Log):=
 zhd7 K (i+1) r ⟨putE s.env o.dst out.1,pTs s.objs out.2⟩ (lg++logOf o i (gE s.env) (gT s.objs) out)
theorem runOps_nil (i:Nat) (s:St) (lg:Log):zhd7 K i [] s lg=some (s,lg):=rfl
theorem runOps_cons (i:Nat) (o:AO) (r:List AO) (s:St) (lg:Log):zhd7 K i (o::r) s lg=bnd (aoE K o (gE s.env) (gT s.objs)) (opsK K i o r s lg):=by
 simp only[zhd7,bnd];split<;>simp_all [opsK]
theorem opsK_eq (i:Nat) (d:Option Nat) (k:AK) (g:Option (Nat×Bool)) (lgd:Bool) (r:List AO) (env:Env) (objs:zsa7) (lg:Log) (v:AVal) (upd:List (RId×TObj)):
  opsK K i ⟨d,k,g,lgd⟩ r ⟨env,objs⟩ lg (v,upd)=zhd7 K (i+1) r ⟨putE env d v,pTs objs upd⟩ (lg++logOf ⟨d,k,g,lgd⟩ i (gE env) (gT objs) (v,upd)):=rfl
theorem logOf_f (d:Option Nat) (k:AK) (g:Option (Nat×Bool)) (i:Nat) (e:Nat→AVal) (ρ:TLook) (out:TOut):logOf ⟨d,k,g,false⟩ i e ρ out=[]:=rfl
theorem logOf_t (d:Option Nat) (k:AK) (g:Option (Nat×Bool)) (i:Nat) (e:Nat→AVal) (ρ:TLook) (out:TOut):logOf ⟨d,k,g,true⟩ i e ρ out=[(i,⟨zie7 k e ρ,out.2.map (·.1),chgOf ρ out.2⟩)]:=rfl
theorem pairK_t (a b:LogE):pairK a b true=true:=rfl
@[congr] theorem pairK_congr {a b:LogE} {x y:Bool} (h:x=y):pairK a b x=pairK a b y:=by rw[h]
def pairsK (pairs:List (Nat×Nat)) (p:St×Log):Option St:=if pairs.all (pairOk p.2) then some p.1 else none
def regK (r:AReg) (s:St):Option St:=bnd (zhd7 K 0 r.ops s []) (pairsK r.pairs)
theorem regK_eq (live drop:List Nat) (ops:List AO) (pairs:List (Nat×Nat)) (s:St):regK K ⟨live,drop,ops,pairs⟩ s=bnd (zhd7 K 0 ops s []) (pairsK pairs):=rfl
theorem runReg_eq (live drop:List Nat) (ops:List AO) (pairs:List (Nat×Nat)) (env:Env) (objs:zsa7):runReg K ⟨live,drop,ops,pairs⟩ ⟨env,objs⟩=bnd (dropE drop ⟨restrict live env,objs⟩) (regK K ⟨live,drop,ops,pairs⟩):=by
 simp only[runReg,bnd,regK,pairsK];cases dropE drop ⟨restrict live env,objs⟩ with
 |none=>rfl
 |some s=>
  simp only;cases zhd7 K 0 ops s []with
  |none=>rfl
  |some p=>rfl
def hd (live drop:List Nat) (s:St):Option St:=dropE drop ⟨restrict live s.env,s.objs⟩
theorem hd_eq (live drop:List Nat) (env:Env) (objs:zsa7):hd live drop ⟨env,objs⟩=dropE drop ⟨restrict live env,objs⟩:=rfl
theorem runReg_hd (live drop:List Nat) (ops:List AO) (pairs:List (Nat×Nat)) (s:St):runReg K ⟨live,drop,ops,pairs⟩ s=bnd (hd live drop s) (regK K ⟨live,drop,ops,pairs⟩):=runReg_eq K live drop ops pairs s.env s.objs
theorem dropE_nil (s:St):dropE [] s=some s:=rfl
theorem restrict_nil (env:Env):restrict [] env=[]:=rfl
theorem restrict_cons (t:Nat) (r:List Nat) (env:Env):restrict (t::r) env=(t,gE env t)::restrict r env:=rfl
theorem aoE_plain (d:Option Nat) (k:AK) (l:Bool) (g:Nat→AVal) (ρ:TLook):aoE K ⟨d,k,none,l⟩ g ρ=opT K (d.getD 0) k g ρ:=rfl
def grdK (want:Bool) (x:Option TOut):AVal→Option TOut
 |.dat (.bool b)=>if b=want then x else some (.tup [],[])
 |.tup []=>some (.tup [],[])
 |_=>none
@[congr] theorem grdK_congr {want:Bool} {x:Option TOut} {v v':AVal} (h:v=v'):grdK want x v=grdK want x v':=by rw[h]
theorem aoE_guard (d:Option Nat) (k:AK) (t:Nat) (want l:Bool) (g:Nat→AVal) (ρ:TLook):aoE K ⟨d,k,some (t,want),l⟩ g ρ=grdK want (opT K (d.getD 0) k g ρ) (g t):=by
 simp only[aoE];generalize g t=v;cases v with
 |dat d=>cases d<;>rfl
 |tup l=>cases l<;>rfl
 |_=>rfl
theorem grdK_b (want b:Bool) (x:Option TOut):grdK want x (.dat (.bool b))=if b=want then x else some (.tup [],[]):=rfl
theorem grdK_u (want:Bool) (x:Option TOut):grdK want x (.tup [])=some (.tup [],[]):=rfl
theorem putE_some (env:Env) (d:Nat) (v:AVal):putE env (some d) v=(d,v)::env:=rfl
theorem putE_none (env:Env) (v:AVal):putE env none v=env:=rfl
theorem gE_miss (env:Env) (t t':Nat) (v:AVal):gE ((t',v)::env) t=if t'=t then v else gE env t:=rfl
def retK3 (vs:List AVal) (order:List RId) (os:List TObj):Option (AVal×List TObj):=
 some (match AVal.trenL (toPos order) vs with|[v]=>v|_=>.tup (AVal.trenL (toPos order) vs),os.map (TObj.tren (toPos order)))
def retK2 (objs:zsa7) (vs:List AVal) (order:List RId):Option (AVal×List TObj):=bnd (gather (gT objs) order) (retK3 vs order)
def retK1 (m:Nat) (objs:zsa7) (p:List AVal×List (RId×TObj)):Option (AVal×List TObj):=
 bnd (collect (gT (pTs objs p.2)) 64 ((List.range m).map (fun j=>((0,j):RId))++AVal.ridsL p.1) []) (retK2 (pTs objs p.2) p.1)
def retK0 (keep:Bool) (m:Nat) (objs:zsa7) (vs:List AVal):Option (AVal×List TObj):=bnd (ressE (gT objs) keep vs) (retK1 m objs)
def retK (res:List AR) (keep:Bool) (m:Nat) (s:St):Option (AVal×List TObj):=bnd (resVs s res) (retK0 keep m s.objs)
theorem retE_eq (np:Nat) (res:List AR) (keep:Bool) (code:AC) (sp:Option Nat) (m:Nat) (s:St):retE ⟨np,res,keep,code,sp⟩ m s=retK res keep m s:=by
 simp only[retE,retK,bnd];cases resVs s res with
 |none=>rfl
 |some rs=>
  simp only[retK0,bnd];cases ressE (gT s.objs) keep rs with
  |none=>rfl
  |some p=>
   obtain⟨vs,us⟩:=p;simp only[retK1,bnd];cases collect (gT (pTs s.objs us)) 64 ((List.range m).map (fun j=>((0,j):RId))++AVal.ridsL vs) []with
   |none=>rfl
   |some order=>
    simp only[retK2,bnd];cases gather (gT (pTs s.objs us)) order<;>rfl
def endK (res:List AR) (keep:Bool) (m:Nat):AEx×St→Option (AVal×List TObj)
 |(.normal,s)=>retK res keep m s
 |(.ret,s)=>retK res keep m s
 |(.exit _,_)=>none
theorem endK_n (res:List AR) (keep:Bool) (m:Nat) (env:Env) (objs:zsa7):endK res keep m (.normal,⟨env,objs⟩)=retK res keep m ⟨env,objs⟩:=rfl
theorem endK_r (res:List AR) (keep:Bool) (m:Nat) (env:Env) (objs:zsa7):endK res keep m (.ret,⟨env,objs⟩)=retK res keep m ⟨env,objs⟩:=rfl
def AR.slot:AR→Nat
 |.t n=>n
 |.cell n _ _=>n
theorem resVs_restrict:∀{res:List AR} {live:List Nat} {s:St},(∀r∈res,r.slot∈live)→resVs ⟨restrict live s.env,s.objs⟩ res=resVs s res
 |[],live,s,h=>rfl
 |r::l,live,s,h=>by
  simp only[List.mem_cons,forall_eq_or_imp]at h
  have e:resV ⟨restrict live s.env,s.objs⟩ r=resV s r:=by
   cases r<;>simp only[resV,gE_restrict]<;>simp only[AR.slot]at h<;>rw[if_pos h.1]
  simp only[resVs,e,resVs_restrict h.2]
theorem endK_hd {res:List AR} {live:List Nat} {keep:Bool} {m:Nat} {s:St} {env:Env} {objs:zsa7} (hl:∀r∈res,r.slot∈live) (h:hd live [] s=some ⟨env,objs⟩):endK res keep m (.ret,s)=retK res keep m ⟨env,objs⟩:=by
 have h:(⟨restrict live s.env,s.objs⟩:St)=⟨env,objs⟩:=Option.some.inj h;have e:=resVs_restrict (s:=s) hl;simp only[endK,retK];rw[←e,h];injection h with h1 h2;rw[h2]
theorem runFun_eq {np:Nat} {res:List AR} {keep:Bool} {code:AC} {sp:Option Nat} {args:List AVal} {os:List TObj} (h:args.length=np):
  zed7 K ⟨np,res,keep,code,sp⟩ args os=bnd (exec K code (enter args os)) (endK res keep os.length):=by
 simp only[zed7,h,if_true,bnd];cases exec K code (enter args os) with
 |none=>rfl
 |some r=>obtain⟨x,⟨env,objs⟩⟩:=r;cases x<;>simp[retE_eq,endK]
theorem runS_none {fn:AFun} (h:fn.split=none) (args:List AVal) (os:List TObj):runS K fn args os=zed7 K fn args os:=by
 simp only[runS,h]
theorem wrap_i64_all {n:Int} (h : -9223372036854775808≤n) (h':n<9223372036854775808):IntKind.wrap .i64 n=n:=by
 have:IntKind.wrap .i64 n=if n % 2 ^ 64≥2 ^ 63 then n % 2 ^ 64-2 ^ 64 else n % 2 ^ 64:=by simp[IntKind.wrap,IntKind.bits,IntKind.signed]
 rw[this];omega
theorem wrap_i64 {n:Int} (h : -1000000000000000<n) (h':n<1000000000000000):IntKind.wrap .i64 n=n:=by
 have:IntKind.wrap .i64 n=if n % 2 ^ 64≥2 ^ 63 then n % 2 ^ 64-2 ^ 64 else n % 2 ^ 64:=by simp[IntKind.wrap,IntKind.bits,IntKind.signed]
 rw[this];omega
def Ev {α:Type} (x:Option α) (Q:α→Prop):Prop:=∃r,x=some r∧Q r
@[congr] theorem Ev_congr {α:Type} {x x':Option α} {Q:α→Prop} (h:x=x'):Ev x Q=Ev x' Q:=by rw[h]
theorem Ev_some {α:Type} (a:α) (Q:α→Prop):Ev (some a) Q=Q a:=by simp[Ev]
theorem Ev_none {α:Type} (Q:α→Prop):Ev none Q=False:=by simp[Ev]
theorem Ev.eq {α:Type} {x:Option α} {a:α} (h:Ev x (fun r=>r=a)):x=some a:=by obtain⟨r,h,rfl⟩:=h;exact h
theorem Ev.mono {α:Type} {x:Option α} {Q Q':α→Prop} (h:Ev x Q) (hq:∀r,Q r→Q' r):Ev x Q':=by obtain⟨r,h,h'⟩:=h;exact⟨r,h,hq r h'⟩
theorem zaa7 {α β:Type} (x:Option α) (f:α→Option β) (Q:β→Prop):Ev (bnd x f) Q=Ev x fun a=>Ev (f a) Q:=by
 apply propext;constructor
 ·rintro⟨r,h,hq⟩;cases x with
  |none=>cases h
  |some a=>exact⟨a,rfl,r,h,hq⟩
 ·rintro⟨a,rfl,r,h,hq⟩;exact⟨r,h,hq⟩
def loopQ (c:AC) (Q:AEx×St→Prop):AEx×St→Prop
 |(.normal,s)=>Ev (zga7 (exec K c) s) Q
 |(.exit id,s)=>Q (.exit id,s)
 |(.ret,s)=>Q (.ret,s)
theorem loopQ_n (c:AC) (Q:AEx×St→Prop) (s:St):loopQ K c Q (.normal,s)=Ev (zga7 (exec K c) s) Q:=rfl
theorem loopQ_e (c:AC) (Q:AEx×St→Prop) (id:Nat) (s:St):loopQ K c Q (.exit id,s)=Q (.exit id,s):=rfl
theorem loopQ_r (c:AC) (Q:AEx×St→Prop) (s:St):loopQ K c Q (.ret,s)=Q (.ret,s):=rfl
variable {K} in
theorem zya7 {c:AC} {s:St} {Q:AEx×St→Prop} (h:Ev (exec K c s) (loopQ K c Q)):Ev (zga7 (exec K c) s) Q:=by
 obtain⟨⟨x,s'⟩,h1,h2⟩:=h;cases x with
 |normal=>
  obtain⟨r,h3,h4⟩:=h2;exact⟨r,loop_next h1 h3,h4⟩
 |exit id=>exact⟨_,loop_done h1 (by simp),h2⟩
 |ret=>exact⟨_,loop_done h1 (by simp),h2⟩
theorem callT_ev {tbl:Tab} {f:FuncId} {fn:AFun} (hf:tbl.fn f=some fn) (hs:fn.split=none) {args:List AVal} {os:List TObj} {r:AVal×List TObj} (h:Ev (zed7 (callT tbl) fn args os) (·=r)) (hne:f≠YID:=by decide):callT tbl f args os=some r:=
 callT_of hf (by rw[runS_none _ hs];exact h.eq) hne
def asB:Dat→Option UInt8
 |.int .u8 n=>some (UInt8.ofNat n.toNat)
 |_=>none
def b2sE (ρ:Look) (v:AVal):Option Out:=match elemsOf ρ 1 v with
 |some l=>match zla7 (l.map asB) with
  |some s=>some (.dat (.str s),[])
  |none=>none
 |none=>none
theorem opE_b2s (site:Nat) (x:AX) (g:Nat→AVal) (ρ:Look):opE site (.b2s x) g ρ=b2sE ρ (evX g x):=by
 simp only[opE,b2sE];cases elemsOf ρ 1 (evX g x) with
 |none=>rfl
 |some l=>rfl
@[simp] theorem rowsA_len (r:RId) (pv k:Nat) (cs:List Cell):(rowsA r pv k cs).length=cs.length:=zia7 r pv k cs
@[simp] theorem rowsA_at (r:RId) (pv k:Nat) (cs:List Cell) (i:Nat):(rowsA r pv k cs)[i]?=(cs[i]?).map fun c=>[cellA r pv (k+i) c]:=zjb7 r pv k cs i
theorem take_all {α:Type} {l:List α} {n:Nat} (h:l.length≤n):l.take n=l:=List.take_of_length_le h
theorem intE_add (k:IntKind) (a b:Int):intE .add k a b=some (.dat (.int k (k.wrap (a+b)))):=rfl
theorem intE_sub (k:IntKind) (a b:Int):intE .sub k a b=some (.dat (.int k (k.wrap (a-b)))):=rfl
theorem intE_mul (k:IntKind) (a b:Int):intE .mul k a b=some (.dat (.int k (k.wrap (a*b)))):=rfl
theorem intE_quo (k:IntKind) (a b:Int):intE .quo k a b=if b=0 then none else some (.dat (.int k (k.wrap (a.tdiv b)))):=rfl
theorem intE_rem (k:IntKind) (a b:Int):intE .rem k a b=if b=0 then none else some (.dat (.int k (a.tmod b))):=rfl
theorem intE_eql (k:IntKind) (a b:Int):intE .eql k a b=some (.dat (.bool (decide (a=b)))):=rfl
theorem intE_neq (k:IntKind) (a b:Int):intE .neq k a b=some (.dat (.bool (!decide (a=b)))):=rfl
theorem intE_lss (k:IntKind) (a b:Int):intE .lss k a b=some (.dat (.bool (decide (a<b)))):=rfl
theorem intE_leq (k:IntKind) (a b:Int):intE .leq k a b=some (.dat (.bool (decide (a≤b)))):=rfl
theorem intE_gtr (k:IntKind) (a b:Int):intE .gtr k a b=some (.dat (.bool (decide (a>b)))):=rfl
theorem intE_geq (k:IntKind) (a b:Int):intE .geq k a b=some (.dat (.bool (decide (a≥b)))):=rfl
theorem unE_neg (k:IntKind) (n:Int):unE .neg (.dat (.int k n))=some (.dat (.int k (k.wrap (0-n)))):=rfl
theorem unE_not (b:Bool):unE .not (.dat (.bool b))=some (.dat (.bool (!b))):=rfl
theorem intE_bits {k:IntKind} {a b:Nat} (hk:k.signed=false) (ha:a<2 ^ k.bits) (hb:b<2 ^ k.bits):
  intE .and k a b=some (.dat (.int k ((a &&& b:Nat):Int)))∧intE .or k a b=some (.dat (.int k ((a ||| b:Nat):Int)))∧intE .xor k a b=some (.dat (.int k ((a ^^^ b:Nat):Int))):=by
 have hw:∀n:Nat,n<2 ^ k.bits→IntKind.wrap k (n:Int)=(n:Int):=by
  intro n hn;have h2:(n:Int)<2 ^ k.bits:=by exact_mod_cast hn
  have:IntKind.wrap k (n:Int)=(n:Int) % 2 ^ k.bits:=by simp[IntKind.wrap,hk]
  rw[this];exact Int.emod_eq_of_lt (by omega) h2
 have e:∀n:Nat,BitVec.ofInt k.bits (n:Int)=BitVec.ofNat k.bits n:=fun n=>BitVec.ofInt_natCast ..
 simp only[intE,e,BitVec.toNat_and,BitVec.toNat_or,BitVec.toNat_xor,BitVec.toNat_ofNat,Nat.mod_eq_of_lt ha,Nat.mod_eq_of_lt hb];refine⟨?_,?_,?_⟩
 ·rw[hw _ (Nat.and_lt_two_pow a hb)]
 ·rw[hw _ (Nat.or_lt_two_pow ha hb)]
 ·rw[hw _ (Nat.xor_lt_two_pow ha hb)]
theorem bits_u8:IntKind.bits .u8=8:=rfl
theorem bits_u16:IntKind.bits .u16=16:=rfl
theorem bits_u32:IntKind.bits .u32=32:=rfl
theorem bits_u64:IntKind.bits .u64=64:=rfl
theorem bits_i64:IntKind.bits .i64=64:=rfl
theorem wrap_u8 (n:Int):IntKind.wrap .u8 n=n % 256:=by simp[IntKind.wrap,IntKind.bits,IntKind.signed]
theorem wrap_u16 (n:Int):IntKind.wrap .u16 n=n % 65536:=by simp[IntKind.wrap,IntKind.bits,IntKind.signed]
theorem wrap_u32 (n:Int):IntKind.wrap .u32 n=n % 4294967296:=by simp[IntKind.wrap,IntKind.bits,IntKind.signed]
theorem wrap_u64 (n:Int):IntKind.wrap .u64 n=n % 18446744073709551616:=by simp[IntKind.wrap,IntKind.bits,IntKind.signed]
theorem fdiv_pos {a b:Int} (h:0≤b):a.fdiv b=a / b:=Int.fdiv_eq_ediv_of_nonneg a h
theorem tdiv_pos {a b:Int} (h:0≤a):a.tdiv b=a / b:=Int.tdiv_eq_ediv_of_nonneg h
theorem tmod_pos {a b:Int} (h:0≤a):a.tmod b=a % b:=Int.tmod_eq_emod_of_nonneg h
@[simp] theorem partE_1 (off:Nat) (l:List Dat):partE false off 1 (.dat (.agg l))=(l[off]?).map AVal.dat:=by
 simp only[partE];split
 ·rfl
 ·rw[List.getElem?_eq_none (by omega)];rfl
@[simp] theorem partE_2 (off:Nat) (l:List AVal):partE false off 1 (.agg l)=l[off]?:=by
 simp only[partE];split
 ·rfl
 ·rw[List.getElem?_eq_none (by omega)]
@[simp] theorem partE_3 (off n:Nat) (l:List Dat):partE true off n (.dat (.agg l))=if off+n≤l.length then some (.dat (.agg ((l.drop off).take n))) else none:=rfl
@[simp] theorem partE_4 (off n:Nat) (l:List AVal):partE true off n (.agg l)=if off+n≤l.length then some (.agg ((l.drop off).take n)) else none:=rfl
def ldB (n off:Nat) (agg:Bool):Option Obj→Option AVal
 |some (.box cs)=>if agg=true then (if off+n≤cs.length then some (.agg ((cs.drop off).take n)) else none) else if n=1 then cs[off]? else if off+n≤cs.length then cs[off]? else none
 |_=>none
@[simp] theorem ldB_t (n off:Nat) (cs:List AVal):ldB n off true (some (.box cs))=if off+n≤cs.length then some (.agg ((cs.drop off).take n)) else none:=rfl
@[simp] theorem ldB_f (off:Nat) (cs:List AVal):ldB 1 off false (some (.box cs))=cs[off]?:=rfl
@[simp] theorem loadE_ref (ρ:Look) (n off:Nat) (agg:Bool) (id:Id):loadE ρ n agg (.ref id off)=ldB n off agg (ρ id):=by
 simp only[loadE];cases ρ id with
 |none=>rfl
 |some o=>
  cases o with
  |box cs=>
   simp only[ldB];cases agg
   ·simp only[Bool.false_eq_true,if_false];by_cases h:n=1
    ·subst h;simp only[if_true];split
     ·rfl
     ·rw[List.getElem?_eq_none (by omega)]
    ·rw[if_neg h]
   ·simp
  |_=>rfl
def ldR (ver i off n:Nat) (agg:Bool):Option Obj→Option AVal
 |some (.arr _ ver' _ es)=>if ver=ver' then (match es[i]? with
   |some d=>if off+n≤d.cells.length then (if agg then some (.dat (.agg ((d.cells.drop off).take n))) else (d.cells[off]?).map .dat) else none
   |none=>none) else none
 |some (.rarr _ ver' es)=>if ver=ver' then (match es[i]? with
   |some row=>if off+n≤row.length then (if agg then some (.agg ((row.drop off).take n)) else row[off]?) else none
   |none=>none) else none
 |_=>none
@[simp] theorem ldR_arr (ver i off n sz ver':Nat) (agg f:Bool) (es:List Dat):ldR ver i off n agg (some (.arr sz ver' f es))=if ver=ver' then (match es[i]? with
   |some d=>if off+n≤d.cells.length then (if agg then some (.dat (.agg ((d.cells.drop off).take n))) else (d.cells[off]?).map .dat) else none
   |none=>none) else none:=rfl
@[simp] theorem ldR_rarr (ver i off n sz ver':Nat) (agg:Bool) (es:List (List AVal)):ldR ver i off n agg (some (.rarr sz ver' es))=if ver=ver' then (match es[i]? with
   |some row=>if off+n≤row.length then (if agg then some (.agg ((row.drop off).take n)) else row[off]?) else none
   |none=>none) else none:=rfl
@[simp] theorem loadE_eref (ρ:Look) (n ver i off:Nat) (agg:Bool) (id:Id):loadE ρ n agg (.eref id ver i off)=ldR ver i off n agg (ρ id):=by
 simp only[loadE,ldR];cases ρ id with
 |none=>rfl
 |some o=>cases o<;>rfl
@[simp] theorem loadE_fpf (ρ:Look) (l:List Dat):loadE ρ 1 false (.fp l)=(l[0]?).map AVal.dat:=by
 simp only[loadE];cases l<;>simp
@[simp] theorem loadE_fpt (ρ:Look) (n:Nat) (l:List Dat):loadE ρ n true (.fp l)=if n≤l.length then some (.dat (.agg (l.take n))) else none:=rfl
attribute [simp ↓ high] opE_b2s
attribute [simp] take_all bits_u8 bits_u16 bits_u32 bits_u64 bits_i64 wrap_u8 wrap_u16 wrap_u32 wrap_u64 wrap_i64 fdiv_pos tdiv_pos tmod_pos
theorem BIGF_eq:BIGF=2000:=by unfold BIGF;rfl
attribute [simp] Ev_some Ev_none loopQ_n loopQ_e loopQ_r bnd_some bnd_none seqK_n seqK_e seqK_r blkK_n blkK_e blkK_r condK_t condK_f exec_skip exec_exit exec_ret exec_reg exec_seq exec_block exec_cond exec_loop runOps_nil runOps_cons opsK_eq logOf_f logOf_t rsrcOf preN capE BIGF_eq pairsK pairOk pairK_t apart logAt meets regK_eq runReg_hd hd_eq restrict_nil restrict_cons aoE_plain aoE_guard grdK_u putE_some putE_none gE_miss pTs pT gT updT updL opT flatE opE flat flatR lift liftX lift1 grown kidO cellA Cell.dat Cell.fresh Cell.freeze cellIn cellIn.data pvN stF appF fullE callE touchC decT decLsT decV argsT resV resVs nid evX aggOf aggOf.datsOf eqCell zra7 cap0E binE intE_add intE_sub intE_mul intE_quo intE_rem intE_eql intE_neq intE_lss intE_leq intE_gtr intE_geq shiftE List.getElem?_cons_zero zmb7 nilPE nilSE cmpE boolE strE ptrAdd unE_neg unE_not endK_n endK_r retK retK0 retK1 retK2 retK3 ressE resE dec zpb7 zqa7 decAll frz collect gather enter AVal.idsL AVal.ids Obj.ids AVal.renL AVal.ren Obj.ren AVal.rids AVal.ridsL TObj.rids liftF AVal.tren AVal.trenL TObj.tren toPos zyb7 zdb7 List.range_succ zwa7
 Dat.width splice storeE elemsOf srcOf fillE lenE lenS iAddrE sliceE sliceS namesE nameL lookN dropE zrc7 touch zie7 scalV scalD mmE mmsE room
end
end Go.Am

namespace Go.Am
variable [Glob]
@[simp] theorem get_mid {α:Type} (l r:List α) (a:α):(l++a::r)[l.length]?=some a:=by simp
@[simp] theorem get_mid_map {α β:Type} (f:β→α) (l:List β) (r:List α) (a:α):(l.map f++a::r)[l.length]?=some a:=by
 rw[List.getElem?_append_right (by simp)];simp
@[simp] theorem lt_mid (a b:Nat):((a:Int)<a+(b+1))=True:=by simp;omega
@[simp] theorem lt_mid1 (a:Nat):((a:Int)<a+1)=True:=by simp;omega
@[simp] theorem nn_succ (a:Nat):(0≤(a:Int)+1)=True:=by simp;omega
@[simp] theorem toNat_succ (a:Nat):((a:Int)+1).toNat=a+1:=by omega
theorem get_at {α:Type} (l:List α) {i:Nat} (h:i<l.length):∃a,l[i]?=some a:=⟨l[i],by simp[h]⟩
theorem drop_none {α:Type} {l:List α} {n:Nat} (h:l.length≤n):l.drop n=[]:=List.drop_of_length_le h
attribute [simp] Int.natCast_inj
theorem zad7 {α:Type} (l:List α) {i:Nat} (h:i<l.length):∃a,l[i]?=some a∧∀h:i<l.length,l[i]=a:=⟨l[i],by simp[h],fun _=>rfl⟩
@[simp] theorem neg_cast (i:Nat):((i:Int)<0)=False:=by simp
def Ix (n:Nat):Prop:=n<100000000000000
@[simp] theorem wrap_succ {n:Nat} (h:Ix n):IntKind.wrap .i64 ((n:Int)+1)=(n:Int)+1:=by
 unfold Ix at h;exact wrap_i64 (by omega) (by omega)
@[simp] def B (b:UInt8):Dat:=.int .u8 (b.toNat:Int)
theorem byte_lt (b:UInt8):b.toNat<256:=by have:=b.toBitVec.isLt;simpa using this
def num4 (l:List UInt8):Nat:=(l.getD 0 0).toNat+256*(l.getD 1 0).toNat+65536*(l.getD 2 0).toNat+16777216*(l.getD 3 0).toNat
def uintB (n:Nat):List UInt8:=if 128≤n then UInt8.ofNat (n % 128+128)::uintB (n / 128) else [UInt8.ofNat n]
 termination_by n
def crcBit (r:Nat):Nat:=if r % 2=1 then (r / 2) ^^^ 3988292384 else r / 2
def crcBits:Nat→Nat→Nat
 |0,r=>r
 |n+1,r=>crcBits n (crcBit r)
def crcL:List UInt8→Nat→Nat
 |[],r=>r
 |b::l,r=>crcL l (crcBits 8 (r ^^^ b.toNat))
def crcB (l:List UInt8):Nat:=crcL l 4294967295 ^^^ 4294967295
def sumB (c:Nat):List UInt8:=[UInt8.ofNat c,UInt8.ofNat (c / 256),UInt8.ofNat (c / 65536),UInt8.ofNat (c / 16777216)]
def sealB (p:List UInt8):List UInt8:=(uintB p.length++p)++sumB (crcB (uintB p.length++p))
theorem b2s_map (l:List UInt8):zla7 ((l.map B).map asB)=some l:=by
 induction l with
 |nil=>rfl
 |cons b l ih=>
  simp only[List.map_cons,zla7,ih,B,asB,Int.toNat_natCast,UInt8.ofNat_toNat]
theorem b2sE_map (ρ:Look) (l:List UInt8):b2sE ρ (.dat (.sl (l.map B)))=some (.dat (.str l),[]):=by
 have h:(l.map B).all (fun d=>d.width==1)=true:=by simp[Dat.width]
 simp only[b2sE,elemsOf,h,if_true,b2s_map]
attribute [simp] b2sE_map
end Go.Am

namespace Go.Am
variable [Glob]
@[simp] theorem exec_q1 (K:Orc) (a:AC) (s:St):exec K (Z.q [a]) s=exec K a s:=rfl
@[simp] theorem exec_q2 (K:Orc) (a b:AC) (r:List AC) (s:St):exec K (Z.q (a::b::r)) s=bnd (exec K a s) (seqK K (Z.q (b::r))):=exec_seq K a (Z.q (b::r)) s
@[congr] theorem loopLim_congr {f:St→Option (AEx×St)} {s s':St} (h:s=s'):zga7 f s=zga7 f s':=by rw[h]
def rnd (live drop:List Nat) (I:Nat→St) (Q:Nat→AEx×St→Prop) (i:Nat):AEx×St→Prop
 |(.normal,s)=>hd live drop s=some (I (i+1))∧∀r,Q (i+1) r→Q i r
 |(.exit k,s)=>Q i (.exit k,s)
 |(.ret,s)=>Q i (.ret,s)
@[simp] theorem rnd_n (live drop:List Nat) (I:Nat→St) (Q:Nat→AEx×St→Prop) (i:Nat) (s:St):rnd live drop I Q i (.normal,s)=(hd live drop s=some (I (i+1))∧∀r,Q (i+1) r→Q i r):=rfl
@[simp] theorem rnd_e (live drop:List Nat) (I:Nat→St) (Q:Nat→AEx×St→Prop) (i k:Nat) (s:St):rnd live drop I Q i (.exit k,s)=Q i (.exit k,s):=rfl
@[simp] theorem rnd_r (live drop:List Nat) (I:Nat→St) (Q:Nat→AEx×St→Prop) (i:Nat) (s:St):rnd live drop I Q i (.ret,s)=Q i (.ret,s):=rfl
def lst (Q:AEx×St→Prop):AEx×St→Prop
 |(.normal,s)=>False
 |(.exit k,s)=>Q (.exit k,s)
 |(.ret,s)=>Q (.ret,s)
@[simp] theorem lst_n (Q:AEx×St→Prop) (s:St):lst Q (.normal,s)=False:=rfl
@[simp] theorem lst_e (Q:AEx×St→Prop) (k:Nat) (s:St):lst Q (.exit k,s)=Q (.exit k,s):=rfl
@[simp] theorem lst_r (Q:AEx×St→Prop) (s:St):lst Q (.ret,s)=Q (.ret,s):=rfl
theorem ev_for {K:Orc} {c:AC} {live drop:List Nat} (n:Nat) (I:Nat→St) (Q:Nat→AEx×St→Prop)
  (h:∀i s,i<n→hd live drop s=some (I i)→Ev (exec K c s) (rnd live drop I Q i))
  (he:∀s,hd live drop s=some (I n)→Ev (exec K c s) (lst (Q n))):
  ∀(k i:Nat) (s:St),i+k=n→hd live drop s=some (I i)→Ev (zga7 (exec K c) s) (Q i)
 |0,i,s,hi,hs=>by
  have e:i=n:=by omega
  subst e;apply zya7;refine (he s hs).mono ?_;rintro⟨x,s'⟩ hq;cases x
  ·exact hq.elim
  ·exact hq
  ·exact hq
 |k+1,i,s,hi,hs=>by
  apply zya7;refine (h i s (by omega) hs).mono ?_;rintro⟨x,s'⟩ hq;cases x
  ·exact (ev_for n I Q h he k (i+1) s' (by omega) hq.1).mono hq.2
  ·exact hq
  ·exact hq
theorem zeb7 {α:Type} {K:Orc} {c:AC} {live drop:List Nat} (l:List α) (hl:l.length<100000000000000) (I:Nat→St) (Q:Nat→AEx×St→Prop)
  (h:∀(i:Nat) x s,l[i]?=some x→(∀h:i<l.length,l[i]=x)→(i:Int)<l.length→Ix i→hd live drop s=some (I i)→Ev (exec K c s) (rnd live drop I Q i))
  (he:∀s,hd live drop s=some (I l.length)→Ev (exec K c s) (lst (Q l.length))) (s:St) (hs:hd live drop s=some (I 0)):Ev (zga7 (exec K c) s) (Q 0):=
 ev_for l.length I Q (fun i s hi hs=>h i l[i] s (by simp) (fun _=>rfl) (by omega) (by unfold Ix;omega) hs) he l.length 0 s (by omega) hs
theorem zwb7 {α:Type} {l:List α} {i:Nat} {x:α} (h:l[i]?=some x):l.drop i=x::l.drop (i+1):=by
 obtain⟨h1,rfl⟩:=List.getElem?_eq_some_iff.1 h;exact List.drop_eq_getElem_cons h1
theorem ce {tbl:Tab} {f:FuncId} {fn:AFun} (hf:tbl.fn f=some fn) {args:List AVal} {os:List TObj} {r:AVal×List TObj} (h:Ev (zed7 (callT tbl) fn args os) (·=r)) (hs:fn.split=none:=by rfl) (hne:f≠YID:=by decide):callT tbl f args os=some r:=
 callT_ev hf hs h hne
attribute [simp] runFun_eq
end Go.Am
