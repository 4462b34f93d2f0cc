/- Parts of the proofs of the statement, joined and made short: AmEval AmTop AmMemo AmSym. -/
import Derived.Test.YtmoibjjpfemgjaaGreatDoorP17
import Derived.Test.YtmoibjjpfemgjaaGreatDoorP18
import Derived.RowKit3
set_option linter.unusedVariables false
set_option linter.unusedSimpArgs false
set_option linter.unusedSectionVars false
namespace Go.Am
variable [Glob]
def execF (K:Orc) (m:Nat):AC→St→Option (AEx×St)
 |.skip,s=>some (.normal,s)
 |.reg r,s=>match runReg K r s with
  |some s=>some (.normal,s)
  |none=>none
 |.seq a b,s=>
  match execF K m a s with
  |some (.normal,s')=>execF K m b s'
  |r=>r
 |.cond x a b,s=>
  match evX (gE s.env) x with
  |.dat (.bool t)=>if t then execF K m a s else execF K m b s
  |_=>none
 |.block id c,s=>
  match execF K m c s with
  |some (.exit id',s')=>if id'=id then some (.normal,s') else some (.exit id',s')
  |r=>r
 |.loop c,s=>iter (execF K m c) m s
 |.exit id,s=>some (.exit id,s)
 |.ret,s=>some (.ret,s)
 |.rf x k site caps,s=>rfE K x k site caps s
theorem execF_exec {K:Orc} {m:Nat}:∀{c:AC} {s:St} {r:AEx×St},execF K m c s=some r→exec K c s=some r:=by
 intro c
 induction c with
 |skip=>intro s r h;exact h
 |reg _=>intro s r h;exact h
 |seq a b iha ihb=>
  intro s r h;simp only[execF]at h;simp only[exec];cases ha:execF K m a s with
  |none=>rw[ha]at h;cases h
  |some p=>
   rw[ha]at h;rw[iha ha];obtain⟨x,s'⟩:=p;cases x with
   |normal=>exact ihb h
   |exit id=>exact h
   |ret=>exact h
 |cond x a b iha ihb=>
  intro s r h;simp only[execF]at h;simp only[exec];split at h
  ·rename_i t ht;simp only[ht];cases t with
   |true=>exact iha h
   |false=>exact ihb h
  ·cases h
 |block id c ih=>
  intro s r h;simp only[execF]at h;simp only[exec];cases ha:execF K m c s with
  |none=>rw[ha]at h;cases h
  |some p=>
   rw[ha]at h;rw[ih ha];exact h
 |loop c ih=>
  intro s r h;simp only[execF]at h;simp only[exec];exact loopLim_iff.2 ⟨m,iter_mono (fun s r h=>ih h) h⟩
 |exit _=>intro s r h;exact h
 |ret=>intro s r h;exact h
 |rf _ _ _ _=>intro s r h;exact h
def runF (K:Orc) (m:Nat) (fn:AFun) (args:List AVal) (os:List TObj):Option (AVal×List TObj):=
 if args.length=fn.np then
  match execF K m fn.code (enter args os) with
  |some (.normal,s)=>retE fn os.length s
  |some (.ret,s)=>retE fn os.length s
  |_=>none
 else none
theorem runF_run {K:Orc} {m:Nat} {fn:AFun} {args:List AVal} {os:List TObj} {r:AVal×List TObj} (h:runF K m fn args os=some r):zed7 K fn args os=some r:=by
 simp only[runF]at h;simp only[zed7];split at h
 ·rename_i hl;rw[if_pos hl];cases he:execF K m fn.code (enter args os) with
  |none=>rw[he]at h;cases h
  |some p=>
   rw[he]at h;rw[execF_exec he];exact h
 ·cases h
mutual
def Dat.same:Dat→Dat→Bool
 |.int k a,.int k' b=>k==k'&&a==b
 |.bool a,.bool b=>a==b
 |.str a,.str b=>a==b
 |.sl a,.sl b=>Dat.sameL a b
 |.agg a,.agg b=>Dat.sameL a b
 |_,_=>false
def Dat.sameL:List Dat→List Dat→Bool
 |[],[]=>true
 |a::r,b::s=>Dat.same a b&&Dat.sameL r s
 |_,_=>false
end
mutual
theorem Dat.same_eq:∀{a b:Dat},Dat.same a b=true→a=b
 |.int k a,.int k' b,h=>by simp[Dat.same]at h;rw[h.1,h.2]
 |.bool a,.bool b,h=>by simp[Dat.same]at h;rw[h]
 |.str a,.str b,h=>by simp[Dat.same]at h;rw[h]
 |.sl a,.sl b,h=>by simp only[Dat.same]at h;rw[Dat.sameL_eq h]
 |.agg a,.agg b,h=>by simp only[Dat.same]at h;rw[Dat.sameL_eq h]
 |.int _ _,.bool _,h=>by simp[Dat.same]at h
 |.int _ _,.str _,h=>by simp[Dat.same]at h
 |.int _ _,.sl _,h=>by simp[Dat.same]at h
 |.int _ _,.agg _,h=>by simp[Dat.same]at h
 |.bool _,.int _ _,h=>by simp[Dat.same]at h
 |.bool _,.str _,h=>by simp[Dat.same]at h
 |.bool _,.sl _,h=>by simp[Dat.same]at h
 |.bool _,.agg _,h=>by simp[Dat.same]at h
 |.str _,.int _ _,h=>by simp[Dat.same]at h
 |.str _,.bool _,h=>by simp[Dat.same]at h
 |.str _,.sl _,h=>by simp[Dat.same]at h
 |.str _,.agg _,h=>by simp[Dat.same]at h
 |.sl _,.int _ _,h=>by simp[Dat.same]at h
 |.sl _,.bool _,h=>by simp[Dat.same]at h
 |.sl _,.str _,h=>by simp[Dat.same]at h
 |.sl _,.agg _,h=>by simp[Dat.same]at h
 |.agg _,.int _ _,h=>by simp[Dat.same]at h
 |.agg _,.bool _,h=>by simp[Dat.same]at h
 |.agg _,.str _,h=>by simp[Dat.same]at h
 |.agg _,.sl _,h=>by simp[Dat.same]at h
theorem Dat.sameL_eq:∀{a b:List Dat},Dat.sameL a b=true→a=b
 |[],[],_=>rfl
 |a::r,b::s,h=>by simp only[Dat.sameL,Bool.and_eq_true]at h;rw[Dat.same_eq h.1,Dat.sameL_eq h.2]
 |[],_::_,h=>by simp[Dat.sameL]at h
 |_::_,[],h=>by simp[Dat.sameL]at h
end
def sameR:Option (AVal×List TObj)→Option (AVal×List TObj)→Option (AVal×List TObj)
 |some (.dat a,[]),some (.dat b,[])=>if Dat.same a b then some (.dat a,[]) else none
 |some (.nils,a),some (.cap0,b)=>if sameAll TObj.same a b then some (.cap0,a) else none
 |some (.cap0,a),some (.nils,b)=>if sameAll TObj.same a b then some (.cap0,a) else none
 |some (.rsl i v sz o l,[.plain (.arr a b c [])]),some (.rsl i' v' sz' o' l',[.plain (.arr a' b' c' [])])=>
  if i=i'∧v=v'∧sz=sz'∧o=o'∧l=l'∧a=a'∧b=b'∧c=c' then some (.rsl i v sz o l,[.plain (.arr a b c [])]) else none
 |_,_=>none
def runSF (K:Orc) (m:Nat) (fn:AFun) (args:List AVal) (os:List TObj):Option (AVal×List TObj):=
 match fn.split with
 |none=>runF K m fn args os
 |some i=>if isEmp args[i]? then sameR (runF K m fn (args.set i (.emp true)) os) (runF K m fn (args.set i (.emp false)) os) else runF K m fn args os
theorem sameR_eq {x y:Option (AVal×List TObj)} {r:AVal×List TObj} (h:sameR x y=some r):(x=some r∧y=some r)∨∃a b,x=some a∧y=some b∧a≠b∧joinR a b=some r:=by
 unfold sameR at h;split at h
 ·split at h
  ·rename_i hs;cases h;rw[Dat.same_eq hs];exact .inl ⟨rfl,rfl⟩
  ·cases h
 ·split at h
  ·rename_i hs;cases h;have:=sameAll_eq TObj.same_eq _ _ hs;subst this;exact .inr ⟨_,_,rfl,rfl,by simp,by simp[joinR]⟩
  ·cases h
 ·split at h
  ·rename_i hs;cases h;have:=sameAll_eq TObj.same_eq _ _ hs;subst this;exact .inr ⟨_,_,rfl,rfl,by simp,by simp[joinR]⟩
  ·cases h
 ·split at h
  ·rename_i hc;obtain⟨rfl,rfl,rfl,rfl,rfl,rfl,rfl,rfl⟩:=hc;cases h;exact .inl ⟨rfl,rfl⟩
  ·cases h
 ·cases h
theorem runSF_run {K:Orc} {m:Nat} {fn:AFun} {args:List AVal} {os:List TObj} {r:AVal×List TObj} (h:runSF K m fn args os=some r):runS K fn args os=some r:=by
 simp only[runSF]at h;simp only[runS];split at h
 ·rename_i hi;rw[hi];exact runF_run h
 ·rename_i i hi;rw[hi];dsimp only;by_cases he:isEmp args[i]?=true
  ·rw[if_pos he]at h ⊢;have hj:=sameR_eq h;rcases hj with⟨h1,h2⟩|⟨a,b,h1,h2,h3,h4⟩
   ·simp only[runF_run h1,runF_run h2,if_true]
   ·simp only[runF_run h1,runF_run h2,if_neg h3,h4]
  ·rw[if_neg he]at h ⊢;exact runF_run h
theorem yieldG_mono {ex ex':AC→St→Option (AEx×St)} (hk:∀c s r,ex c s=some r→ex' c s=some r) {lps:Nat→Option ALoop} {args:List AVal} {os:List TObj} {r:AVal×List TObj} (h:yieldG ex lps args os=some r):yieldG ex' lps args os=some r:=by
 unfold yieldG at h ⊢;split at h
 ·split at h
  ·split at h
   ·split at h
    ·rename_i hl;rw[if_pos hl];split at h
     ·rename_i s1 h1;rw[hk _ _ _ h1];simp only;split at h
      ·split at h
       ·rename_i e s2 h2;rw[hk _ _ _ h2];exact h
       ·cases h
      ·cases h
     ·cases h
    ·cases h
   ·cases h
  ·cases h
 ·cases h
def Kf (tbl:Tab) (m:Nat):Nat→Orc
 |0=>fun _ _ _=>none
 |n+1=>fun f args os=>if f=YID then yieldG (execF (Kf tbl m n) m) tbl.lp args os else match tbl.fn f with
  |some fn=>runSF (Kf tbl m n) m fn args os
  |none=>tbl.law f args os
theorem Kf_kn {tbl:Tab} {m:Nat}:∀n,OrcLe (Kf tbl m n) (Kn tbl n)
 |0=>fun _ _ _ _ h=>by cases h
 |n+1=>fun f args os r h=>by
  simp only[Kf]at h;simp only[Kn];by_cases e:f=YID
  ·rw[if_pos e]at h ⊢;exact yieldE_mono (Kf_kn n) (yieldG_mono (fun c s r h=>execF_exec h) h)
  ·rw[if_neg e]at h ⊢;cases hf:tbl.fn f with
   |none=>rw[hf]at h;exact h
   |some fn=>rw[hf]at h;exact runS_mono (Kf_kn n) (runSF_run h)
end Go.Am

namespace Go.Am
variable [Glob]
open Go.RowKit
def allF (W:World):Froz:=fun b o=>W.cell? ⟨b,o,none⟩
def ctx0 (W:World):Ctx:={ w:=W,F:=allF W,μ:=fun _=>⟨0,0,0⟩,ρ:=fun _=>none }
theorem ctx0_inv (W:World):Inv (baseOf (ctx0 W)) (ctx0 W):=by
 refine⟨fun id o h=>?_,fun id id' o o' h=>?_,fun id o h=>?_,fun id id' x x' h=>?_,fun id x h=>?_,KeptB.reflM (fun b ⟨id,x,h,_⟩=>by cases h),fun b o v h=>h,fun _ _ _ h=>h,fun _ _ _ h=>.inl h⟩<;>cases h
def GrownL (W w':World):Prop:=W.keptBut w' (fun _=>False)∧(∀a,a.block<W.heap.size→w'.frozen? a=W.frozen? a)∧W.heap.size≤w'.heap.size
theorem top_calls {P:Program} {tbl:Tab} (ht:TblOK P tbl) {f:FuncId} {args:List AVal} {t:Bool} {os':List TObj} (h:callT tbl f args []=some (.dat (.bool t),os')) {W:World} {vals:Array Value}
  (hG:GlobOK (allF W)) (hr:RepL (ctx0 W) args vals.toList):Calls P f vals W fun e W'=>e=.returned (.bool t)∧GrownL W W':=by
 have hen:zkb7 P f=true∧CallOK P f args [] (.dat (.bool t)) os':=by
  rcases callT_sound ht f args [] _ _ h with⟨_,q⟩|⟨_,_,q⟩
  ·exact q
  ·exfalso;obtain⟨n,hn⟩:=callT_iff.1 h;cases n with
   |zero=>simp[Kn]at hn
   |succ n=>
    rename_i e _;rw[Kn]at hn;simp only[if_pos e,yieldE,yieldG]at hn;split at hn
    ·simp at hn
    ·cases hn
 have hc:=hen.2 (ctx0 W) vals (by funext id;simp[ctx0,flat,zpa7]) hG (ctx0_inv W) hr;refine hc.mono fun e W' ⟨val,C',h1,h2,_,h4,h5,_⟩=>?_
 have hk:=h4.kept.kept (fun i _ hM=>by
  obtain⟨id,x,q,_⟩:=hM;cases q)
 have hno:∀b x,¬OwnSet (ctx0 W) b x:=by
  rintro b x ⟨id,ob,q,_⟩;cases q
 refine⟨by rw[h1,rep_bool h5],?_⟩;rw[←h2];refine⟨World.keptBut_mono (fun p hp=>?_) hk.but,hk.frozen,hk.size⟩;obtain⟨b,o,_,hT⟩:=hp;exact hno b o hT
end Go.Am

namespace Go.Am
variable [Glob]
structure Ent where
 f:FuncId
 args:List Dat
 res:AVal
def resEq:AVal→AVal→Bool
 |.dat a,.dat b=>Dat.eqv a b
 |.tup a,.tup b=>sameAll AVal.same a b
 |_,_=>false
theorem resEq_eq {a b:AVal} (h:resEq a b=true):a=b:=by
 unfold resEq at h;split at h
 ·rw[Dat.eqv_eq _ _ h]
 ·rw[sameAll_eq AVal.same_eq _ _ h]
 ·cases h
def argsEq:List Dat→List AVal→Bool
 |[],l=>l.isEmpty
 |d::r,l=>(match l with|.dat d'::s=>Dat.eqv d d'&&argsEq r s|_=>false)
theorem argsEq_eq:∀{l:List Dat} {as:List AVal},argsEq l as=true→as=l.map .dat
 |[],as,h=>by cases as<;>simp_all [argsEq]
 |d::r,as,h=>by
  unfold argsEq at h;split at h
  ·rename_i d' s;simp only[Bool.and_eq_true]at h;rw[List.map_cons,Dat.eqv_eq _ _ h.1,argsEq_eq h.2]
  ·cases h
def findM:List Ent→FuncId→List AVal→Option AVal
 |[],_,_=>none
 |e::r,f,args=>if e.f=f∧argsEq e.args args=true then some e.res else findM r f args
def memoL (l:List Ent) (base:Orc):Orc:=fun f args os=>
 match os with
 |[]=>match findM l f args with
  |some r=>some (r,[])
  |none=>base f args []
 |os=>base f args os
def EntOK (P:Program) (e:Ent):Prop:=e.f≠YID∧zkb7 P e.f=true∧CallOK P e.f (e.args.map .dat) [] e.res []
theorem findM_mem:∀{l:List Ent} {f:FuncId} {args:List AVal} {r:AVal},findM l f args=some r→∃e∈l,e.f=f∧args=e.args.map .dat∧r=e.res
 |[],f,args,r,h=>by cases h
 |e::l,f,args,r,h=>by
  simp only[findM]at h;split at h
  ·rename_i hc;cases h;exact⟨e,by simp,hc.1,argsEq_eq hc.2,rfl⟩
  ·obtain⟨e',h1,h2⟩:=findM_mem h;exact⟨e',by simp[h1],h2⟩
theorem memoL_ok {P:Program} {l:List Ent} {base:Orc} (hl:∀e∈l,EntOK P e) (hb:zae7 P base):zae7 P (memoL l base):=by
 intro f args os v os' h;unfold memoL at h;split at h
 ·split at h
  ·rename_i r hr;cases h;obtain⟨e,h1,rfl,rfl,rfl⟩:=findM_mem hr;exact .inl (hl e h1)
  ·exact hb f args [] v os' h
 ·exact hb _ _ _ _ _ h
def checkE (K:Orc) (m:Nat) (tf:FuncId→Option AFun) (e:Ent):Bool:=
 match tf e.f with
 |some fn=>match runSF K m fn (e.args.map .dat) []with
  |some (v,[])=>resEq v e.res
  |_=>false
 |none=>false
theorem check_ok {P:Program} {T:Tab} (hT:TblOK P T) {m n:Nat} {tf:FuncId→Option AFun} (htf:∀f fn,tf f=some fn→∃an keep g,cFun P an keep f=some g∧fn={ g with split:=fn.split }) (hy:tf YID=none)
  {e:Ent} (h:checkE (Kf T m n) m tf e=true):EntOK P e:=by
 unfold checkE at h;split at h
 ·rename_i fn hf;split at h
  ·rename_i v hr;have hv:=resEq_eq h;subst hv;obtain⟨an,keep,g,hc,he⟩:=htf _ _ hf;refine⟨fun e'=>(by rw[e',hy]at hf;cases hf),?_⟩;exact split_sound (kn_sound hT n) hT.loops hc he (runS_mono (Kf_kn n) (runSF_run hr))
  ·cases h
 ·cases h
theorem checks_ok {P:Program} {T:Tab} (hT:TblOK P T) {m n:Nat} {tf:FuncId→Option AFun} (htf:∀f fn,tf f=some fn→∃an keep g,cFun P an keep f=some g∧fn={ g with split:=fn.split }) (hy:tf YID=none)
  {l:List Ent} (h:l.all (checkE (Kf T m n) m tf)=true):∀e∈l,EntOK P e:=fun e he=>check_ok hT htf hy (List.all_eq_true.1 h e he)
theorem TblOK.memo {P:Program} {T:Tab} (hT:TblOK P T) {l:List Ent} (hl:∀e∈l,EntOK P e):TblOK P { T with law:=memoL l T.law }:=
 ⟨hT.fn,memoL_ok hl hT.law,hT.lp,hT.loops,hT.yid⟩
end Go.Am

namespace Go.Am
variable [Glob]
attribute [simp] grdK_b
@[simp low] theorem condK_c (K:Orc) (a b:AC) (s:St) (p:Bool):condK K a b s (.dat (.bool p))=if p=true then exec K a s else exec K b s:=by cases p<;>simp
@[simp] theorem ite_db (p:Prop) [Decidable p] (x y:Bool):(if p then AVal.dat (.bool x) else AVal.dat (.bool y))=.dat (.bool (if p then x else y)):=by split<;>rfl
@[simp] theorem ite_di (p:Prop) [Decidable p] (k:IntKind) (x y:Int):(if p then AVal.dat (.int k x) else AVal.dat (.int k y))=.dat (.int k (if p then x else y)):=by split<;>rfl
end Go.Am
