/- Parts of the proofs of the statement, joined and made short: AmOps. -/
import Derived.Test.YtmoibjjpfemgjaaGreatDoorP4
import Derived.Test.YtmoibjjpfemgjaaGreatDoorP2
import Derived.OrdersIn
import Derived.LoopNIn
import Derived.RangeFuncRecord
import Derived.Laws.StructEq
import Derived.ChangeKeysEq
import Derived.Laws.Cells
import Derived.Laws.Append
import Derived.Laws.Strings
set_option linter.unusedVariables false
set_option linter.unusedSimpArgs false
set_option linter.unusedSectionVars false
namespace Go.Am
variable [Glob]
def Does (P:Program) (o:Oper) (a:Act) (w:World) (Φ:Value→World→Prop):Prop:=
 (∃val w',(execOp a.eval o).run P w=.ok (.value val) w'∧Φ val w')∨
 (∃w',(execOp a.eval o).run P w=.ok .skip w'∧Φ undef w')∨
 (∃f args,(execOp a.eval o).run P w=.ok (.enter f args) w∧Calls P f args w fun e w'=>∃val,e=.returned val∧Φ val w')∨
 (∃l f tmps assign body,(execOp a.eval o).run P w=.ok (.round l f tmps assign body) w∧RoundIn Fence.wide 0 P l f tmps assign body w fun e w'=>∃val,e=.returned val∧Φ val w')
abbrev fR (r:Option Nat):Fence:={ Fence.wide with round:=r }
theorem Does.wp {P:Program} {o:Oper} {a:Act} {w:World} {Φ:Value→World→Prop} {next:Act→World→Prop} {Q:Exit→Act→World→Prop} {r:Option Nat} (hd:∀c,o.op≠.defer c)
  (h:Does P o a w Φ) (hn:∀val w',Φ val w'→next (a.put o.dst val) w'):o.wpIn (fR r) 0 P a w next Q:=by
 refine⟨fun _ _=>trivial,?_⟩;rw[Oper.semAt_eq _ _ _ hd];rcases h with⟨val,w',hr,hp⟩|⟨w',hr,hp⟩|⟨f,args,hr,hc⟩|⟨l,f,tmps,avs,bd,hr,hc⟩
 ·rw[hr];exact hn _ _ hp
 ·rw[hr];exact hn _ _ hp
 ·rw[hr];refine⟨(fun h=>by cases h),?_⟩;have hc':CallsIn (fR r) (0-1) P f args w fun e w'=>∃val,e=.returned val∧Φ val w':=callsIn_wide.2 hc
  exact hc'.mono fun e w' ⟨val,he,hp⟩=>by subst he;exact hn _ _ hp
 ·rw[hr];refine⟨(fun h=>by cases h),?_⟩;have hc':RoundIn (fR r) (0-1) P l f tmps avs bd w fun e w'=>∃val,e=.returned val∧Φ val w':=hc
  exact hc'.mono fun e w' ⟨val,he,hp⟩=>by subst he;exact hn _ _ hp
theorem Does.mono {P:Program} {o:Oper} {a:Act} {w:World} {Φ Φ':Value→World→Prop} (h:Does P o a w Φ) (hp:∀v w',Φ v w'→Φ' v w'):Does P o a w Φ':=by
 rcases h with⟨val,w',hr,h⟩|⟨w',hr,h⟩|⟨f,args,hr,hc⟩|⟨l,f,tmps,avs,bd,hr,hc⟩
 ·exact .inl ⟨val,w',hr,hp _ _ h⟩
 ·exact .inr (.inl ⟨w',hr,hp _ _ h⟩)
 ·exact .inr (.inr (.inl ⟨f,args,hr,hc.mono fun e w' ⟨val,he,h⟩=>⟨val,he,hp _ _ h⟩⟩))
 ·exact .inr (.inr (.inr ⟨l,f,tmps,avs,bd,hr,hc.mono fun e w' ⟨val,he,h⟩=>⟨val,he,hp _ _ h⟩⟩))
def Owes (B:Base) (C:Ctx) (v:AVal) (upd:List (Id×Obj)) (val:Value) (w':World):Prop:=
 ∃C':Ctx,C'.w=w'∧C'.ρ=updL C.ρ upd∧Inv B C'∧Grow C C'∧RepA C' v val
theorem zfa7 {P:Program} {o:Oper} {a:Act} {B:Base} {C:Ctx} {v:AVal} {val:Value} (h:Inv B C)
  (hr:(execOp a.eval o).run P C.w=.ok (.value val) C.w) (hv:RepA C v val):Does P o a C.w (Owes B C v []):=
 .inl ⟨val,C.w,hr,C,rfl,rfl,h,Grow.refl C,hv⟩
structure RepE (C:Ctx) (g:Nat→AVal) (a:Act):Prop where
 env:∀t,RepA C (g t) (a.tmps.getD t undef)
 glob:GlobOK C.F
theorem cst_rep {C:Ctx} {v:Value} {x:AVal} (h:cst v=some x):RepA C x v∧x.leaf=true:=by
 unfold cst at h;split at h<;>simp at h<;>subst h
 ·exact⟨by simp[RepA,RepV,RepD,Value.cells,zqc7],by simp⟩
 ·exact⟨by simp[RepA,RepV,RepD,Value.cells,zqc7],by simp⟩
 ·exact⟨by simp[RepA,RepV,RepD,Value.cells,zqc7],by simp⟩
 ·exact⟨by simp[RepA],by simp⟩
 ·exact⟨by simp[RepA],by simp⟩
 ·exact⟨by simp[RepA,Value.oneCell',zqc7],by simp⟩
 ·exact⟨by simp[RepA,Value.oneCell',zqc7],by simp⟩
 ·exact⟨by simp[RepA,Value.oneCell',zqc7],by simp⟩
theorem zic7 {α:Type}:∀{l:List (Option α)} {r:List α},zla7 l=some r→l=r.map some
 |[],r,h=>by simp[zla7]at h;subst h;rfl
 |none::l,r,h=>by simp[zla7]at h
 |some a::l,r,h=>by
  simp only[zla7]at h;cases e:zla7 l with
  |none=>simp[e]at h
  |some r'=>simp[e]at h;subst h;simp[zic7 e]
theorem cst_reps {C:Ctx}:∀{vs:List Value} {l:List AVal},zla7 (vs.map cst)=some l→RepL C l vs∧l.all AVal.leaf=true∧∀v∈vs,v.oneCell'=true
 |[],l,h=>by simp[zla7]at h;subst h;simp[RepL]
 |v::vs,l,h=>by
  simp only[List.map_cons]at h;cases e:cst v with
  |none=>simp[zla7,e]at h
  |some x=>
   rw[e]at h;simp only[zla7]at h;cases e':zla7 (vs.map cst) with
   |none=>simp[e']at h
   |some r=>
    simp[e']at h;subst h;obtain⟨h1,h2,h3⟩:=cst_reps (C:=C) e';obtain⟨h4,h5⟩:=cst_rep (C:=C) e;refine⟨⟨v,vs,rfl,h4,h1⟩,by rw[List.all_cons,h5,h2];rfl,fun u hu=>?_⟩;cases hu with
    |head=>exact (h4.leaf h5).1
    |tail _ hu=>exact h3 u hu
theorem zea7 {C:Ctx} {g:Nat→AVal} {a:Act} (hg:RepE C g a) {x:Operand} {ax:AX} (h:cX x=some ax):RepA C (evX g ax) (a.eval x):=by
 cases x with
 |tmp t=>simp[cX]at h;subst h;exact hg.env t
 |func f=>
  simp only[cX]at h;split at h
  ·rename_i hf;cases h;simp only[evX,RepA,Act.eval,if_neg (Nat.not_le.2 hf)];exact⟨#[],rfl,by simp[RepL]⟩
  ·cases h
 |global n=>
  simp only[cX]at h;cases e:Glob.tab n with
  |none=>simp[e]at h
  |some ds=>
   simp[e]at h;subst h;obtain⟨cs,h1,h2⟩:=hg.glob n ds e;simp only[evX,RepA,Act.eval];exact⟨n,0,cs,rfl,h1,h2⟩
 |const v=>
  simp only[cX]at h;split at h
  ·rename_i cs;cases e:zla7 (cs.toList.map cst) with
   |none=>simp[e]at h
   |some l=>
    simp[e]at h;subst h;obtain⟨h1,h2,h3⟩:=cst_reps (C:=C) e;exact⟨cs,rfl,h1,h2,by simpa using h3⟩
  ·cases e:cst v with
   |none=>simp[e]at h
   |some y=>
    simp[e]at h;subst h;exact (cst_rep e).1
theorem cXs_rep {C:Ctx} {g:Nat→AVal} {a:Act} (hg:RepE C g a):∀{xs:List Operand} {axs:List AX},zla7 (xs.map cX)=some axs→RepL C (axs.map (evX g)) (xs.map a.eval)
 |[],axs,h=>by simp[zla7]at h;subst h;simp[RepL]
 |x::xs,axs,h=>by
  simp only[List.map_cons]at h;cases e:cX x with
  |none=>simp[zla7,e]at h
  |some y=>
   rw[e]at h;simp only[zla7]at h;cases e':zla7 (xs.map cX) with
   |none=>simp[e']at h
   |some r=>
    simp[e']at h;subst h;exact⟨_,_,rfl,zea7 hg e,cXs_rep hg e'⟩
theorem tI_info {P:Program} {t:TypeId} {q:TI} (h:tI P t=some q):∃i d,P.info? t=some i∧P.underlying t=some d∧q.size=i.size∧q.bytes=i.bytes∧
  q.agg=(match d with|.struct _|.array _ _=>true|_=>false)∧q.zero=i.zero.bind cstCells:=by
 unfold tI at h;cases e:P.info? t with
 |none=>simp[e]at h
 |some i=>
  cases e':P.underlying t with
  |none=>simp[e,e']at h
  |some d=>simp[e,e']at h;subst h;exact⟨i,d,rfl,rfl,rfl,rfl,rfl,rfl⟩
theorem run_typeInfo {P:Program} {t:TypeId} {i:TypeInfo} (h:P.info? t=some i) (w:World):(typeInfo t).run P w=.ok i w:=by
 simp[typeInfo,h]
theorem run_sizeOf {P:Program} {t:TypeId} {q:TI} (h:tI P t=some q) (w:World):(sizeOf t).run P w=.ok q.size w:=by
 obtain⟨i,d,h1,_,h3,_⟩:=tI_info h;simp[sizeOf,run_typeInfo h1,h3]
theorem run_isAgg {P:Program} {t:TypeId} {q:TI} (h:tI P t=some q) (w:World):(isAgg t).run P w=.ok q.agg w:=by
 obtain⟨i,d,_,h2,_,_,h5,_⟩:=tI_info h;rw[h5];simp only[isAgg,Sem.run_bind,run_underlying h2,Result.andThen_ok];cases d<;>rfl
theorem Addr.add_mk (b o n:Nat):(⟨b,o,none⟩:Addr).add n=⟨b,o+n,none⟩:=by
 unfold Addr.add;split<;>simp_all
section
variable {P:Program} {o:Oper} {a:Act} {B:Base} {C:Ctx} {g:Nat→AVal}
theorem op_mv (hI:Inv B C) (hE:RepE C g a) {x:Operand} {ax:AX} (ho:o.op=.move x∨o.op=.assign x) (hx:cX x=some ax):
  Does P o a C.w (Owes B C (evX g ax) []):=by
 refine zfa7 hI ?_ (zea7 hE hx);rcases ho with ho|ho<;>simp[execOp,ho]
theorem op_pick (hI:Inv B C) (hE:RepE C g a) {c x y:Operand} {ac ax ay:AX} (ho:o.op=.pick c x y) (hc:cX c=some ac) (hx:cX x=some ax) (hy:cX y=some ay)
  {t:Bool} (ht:evX g ac=.dat (.bool t)):Does P o a C.w (Owes B C (if t then evX g ax else evX g ay) []):=by
 have h1:=zea7 hE hc;rw[ht]at h1;simp only[RepA]at h1;have h2:=h1.cell rfl;simp[RepD]at h2;refine zfa7 (val:=if t then a.eval x else a.eval y) hI ?_ ?_
 ·simp only[execOp,ho,Sem.run_bind,h2,asBool,Sem.run_pure,Result.andThen_ok]
 ·cases t
  ·exact zea7 hE hy
  ·exact zea7 hE hx
theorem op_nilChk (hI:Inv B C) (hE:RepE C g a) {x:Operand} {ax:AX} (ho:o.op=.nilCheck x) (hx:cX x=some ax)
  (hp:(∃id off,evX g ax=.ref id off)∨(∃id ver i off,evX g ax=.eref id ver i off)∨(∃l,evX g ax=.fp l)∨(∃f l,evX g ax=.fn f l)):
  Does P o a C.w (Owes B C (evX g ax) []):=by
 have h1:=zea7 hE hx
 have:(∃p,a.eval x=.pointer (some p))∨∃f bs cs,a.eval x=.func (.func f) bs cs:=by
  rcases hp with⟨id,off,e⟩|⟨id,ver,i,off,e⟩|⟨l,e⟩|⟨f,l,e⟩<;>rw[e]at h1<;>simp only[RepA]at h1
  ·obtain⟨L,_,h⟩:=h1;exact .inl ⟨_,h⟩
  ·obtain⟨A,p,_,_,h,_⟩:=h1;exact .inl ⟨_,h⟩
  ·obtain⟨b,o,cs,h,_⟩:=h1;exact .inl ⟨_,h⟩
  ·obtain⟨cs,h,_⟩:=h1;split at h
   ·exact .inr ⟨_,_,_,h⟩
   ·exact .inr ⟨_,_,_,h⟩
 rcases this with⟨p,hp⟩|⟨f,bs,cs,hp⟩
 ·exact zfa7 hI (by simp[execOp,ho,hp]) h1
 ·exact zfa7 hI (by simp[execOp,ho,hp]) h1
theorem op_mkf (hI:Inv B C) (hE:RepE C g a) {f:FuncId} {first captured:Array Operand} {axs:List AX} (ho:o.op=.makeFunc (.func f) first captured) (hb:¬BIGF≤f) (h0:first.size=0) (hx:cXs captured=some axs):
  Does P o a C.w (Owes B C (.fn f (axs.map (evX g))) []):=by
 have h1:=cXs_rep (C:=C) hE hx;have hf:first=#[]:=Array.eq_empty_of_size_eq_zero h0;subst hf;refine zfa7 hI (val:=.func (.func f) #[] (captured.map a.eval)) (by simp[execOp,ho,Instr.makeFunc]) ?_;simp only[RepA,if_neg hb];exact⟨_,rfl,by simpa using h1⟩
theorem op_mkb (hI:Inv B C) (hE:RepE C g a) {f:FuncId} {first captured:Array Operand} {axs:List AX} (ho:o.op=.makeFunc (.func f) first captured) (h0:captured.size=0) (hx:cXs first=some axs):
  Does P o a C.w (Owes B C (.fn (f+BIGF) (axs.map (evX g))) []):=by
 have h1:=cXs_rep (C:=C) hE hx;have hf:captured=#[]:=Array.eq_empty_of_size_eq_zero h0;subst hf;refine zfa7 hI (val:=.func (.func f) (first.map a.eval) #[]) (by simp[execOp,ho,Instr.makeFunc]) ?_;simp only[RepA,if_pos (Nat.le_add_left BIGF f),Nat.add_sub_cancel];exact⟨_,rfl,by simpa using h1⟩
theorem cap0E_rep {x v:AVal} {val:Value} (h:cap0E x=some v) (hr:RepA C x val):∃p n c,val=.slice p n c∧RepA C v (.slice p 0 0):=by
 unfold cap0E at h;split at h<;>simp only[Option.some.injEq,reduceCtorEq]at h<;>subst h<;>simp only[RepA]at hr ⊢
 ·exact⟨none,0,0,hr,rfl⟩
 ·obtain⟨p,c,h1,h2⟩:=hr;exact⟨p,0,c,h1,p,rfl⟩
 ·obtain⟨p,h1⟩:=hr;exact⟨p,0,0,h1,p,rfl⟩
 ·have:=hr.cell rfl;simp only[RepD]at this;obtain⟨p,cap,h1,_⟩:=this;simp only[List.cons.injEq,and_true]at h1;exact⟨p,_,_,h1,p,rfl⟩
 ·obtain⟨A,p,cap,_,_,h4,_⟩:=hr;exact⟨p,_,_,h4,p,rfl⟩
theorem rep_int {C:Ctx} {k:IntKind} {n:Int} {v:Value} (h:RepA C (.dat (.int k n)) v):v=.int k n:=by
 simp only[RepA]at h;have:=h.cell rfl;simpa[RepD]using this
theorem rep_bool {C:Ctx} {b:Bool} {v:Value} (h:RepA C (.dat (.bool b)) v):v=.bool b:=by
 simp only[RepA]at h;have:=h.cell rfl;simpa[RepD]using this
theorem rep_str {C:Ctx} {s:List UInt8} {v:Value} (h:RepA C (.dat (.str s)) v):v=.string ⟨s.toArray⟩:=by
 simp only[RepA]at h;have:=h.cell rfl;simpa[RepD]using this
theorem zna7 (C:Ctx) (k:IntKind) (n:Int):RepA C (.dat (.int k n)) (.int k n):=by simp[RepA,RepV,RepD,Value.cells,zqc7]
theorem zsb7 (C:Ctx) (b:Bool):RepA C (.dat (.bool b)) (.bool b):=by simp[RepA,RepV,RepD,Value.cells,zqc7]
theorem rep_mk_str (C:Ctx) (s:List UInt8):RepA C (.dat (.str s)) (.string ⟨s.toArray⟩):=by simp[RepA,RepV,RepD,Value.cells,zqc7]
theorem toList_mk (l:List UInt8):(⟨l.toArray⟩:ByteArray).toList=l:=by
 rw[ByteArray.toList_eq]
theorem intE_run (C:Ctx) {op:BinOp} {k:IntKind} {x y:Int} {v:AVal} (h:intE op k x y=some v) (hs:op≠.shl∧op≠.shr) (t:TypeId) (w:World):
  ∃val,(binOp op t (.int k x) (.int k y)).run P w=.ok val w∧RepA C v val:=by
 cases op<;>simp only[intE,Option.some.injEq,reduceCtorEq,Option.ite_none_left_eq_some]at h
 case add=>subst h;exact⟨_,by simp[binOp,Op.intArith],zna7 _ _ _⟩
 case sub=>subst h;exact⟨_,by simp[binOp,Op.intArith],zna7 _ _ _⟩
 case mul=>subst h;exact⟨_,by simp[binOp,Op.intArith],zna7 _ _ _⟩
 case quo=>obtain⟨h1,h⟩:=h;subst h;exact⟨_,by simp[binOp,Op.intDiv,h1],zna7 _ _ _⟩
 case rem=>obtain⟨h1,h⟩:=h;subst h;exact⟨_,by simp[binOp,Op.intDiv,h1],zna7 _ _ _⟩
 case and=>subst h;exact⟨_,by simp only[binOp,ne_eq,not_true_eq_false,if_false,Op.intBits];exact Sem.run_pure P w _,zna7 _ _ _⟩
 case or=>subst h;exact⟨_,by simp only[binOp,ne_eq,not_true_eq_false,if_false,Op.intBits];exact Sem.run_pure P w _,zna7 _ _ _⟩
 case xor=>subst h;exact⟨_,by simp only[binOp,ne_eq,not_true_eq_false,if_false,Op.intBits];exact Sem.run_pure P w _,zna7 _ _ _⟩
 case andNot=>subst h;exact⟨_,by simp only[binOp,ne_eq,not_true_eq_false,if_false,Op.intBits];exact Sem.run_pure P w _,zna7 _ _ _⟩
 case eql=>subst h;exact⟨_,by simp only[binOp,ne_eq,not_true_eq_false,if_false,Op.intCmp];exact Sem.run_pure P w _,zsb7 _ _⟩
 case neq=>subst h;exact⟨_,by simp only[binOp,ne_eq,not_true_eq_false,if_false,Op.intCmp];exact Sem.run_pure P w _,by exact zsb7 _ _⟩
 case lss=>subst h;exact⟨_,by simp only[binOp,ne_eq,not_true_eq_false,if_false,Op.intCmp];exact Sem.run_pure P w _,zsb7 _ _⟩
 case leq=>subst h;exact⟨_,by simp only[binOp,ne_eq,not_true_eq_false,if_false,Op.intCmp];exact Sem.run_pure P w _,zsb7 _ _⟩
 case gtr=>subst h;exact⟨_,by simp only[binOp,ne_eq,not_true_eq_false,if_false,Op.intCmp];exact Sem.run_pure P w _,zsb7 _ _⟩
 case geq=>subst h;exact⟨_,by simp only[binOp,ne_eq,not_true_eq_false,if_false,Op.intCmp];exact Sem.run_pure P w _,zsb7 _ _⟩
theorem shiftE_run (C:Ctx) {op:BinOp} {k k':IntKind} {x y:Int} {v:AVal} (h:shiftE op k x y=some v) (t:TypeId) (w:World):
  ∃val,(binOp op t (.int k x) (.int k' y)).run P w=.ok val w∧RepA C v val:=by
 unfold shiftE at h;split at h
 ·cases h
 ·rename_i hy;cases op<;>simp at h
  case shl=>subst h;exact⟨_,by simp only[binOp,Op.shift,hy,if_false];exact Sem.run_pure P w _,zna7 _ _ _⟩
  case shr=>subst h;exact⟨_,by simp only[binOp,Op.shift,hy,if_false];exact Sem.run_pure P w _,zna7 _ _ _⟩
theorem strE_run (C:Ctx) {op:BinOp} {x y:List UInt8} {v:AVal} (h:strE op x y=some v) (t:TypeId) (w:World):
  ∃val,(binOp op t (.string ⟨x.toArray⟩) (.string ⟨y.toArray⟩)).run P w=.ok val w∧RepA C v val:=by
 cases op<;>simp only[strE,Option.some.injEq,reduceCtorEq,Option.ite_none_right_eq_some]at h
 case add=>
  obtain⟨h1,h⟩:=h;subst h;refine⟨.string (⟨x.toArray⟩++⟨y.toArray⟩),?_,?_⟩
  ·have hb:¬(((x.length+y.length:Nat):Int)>IntKind.i64.max):=by
    have:IntKind.i64.max=9223372036854775807:=by decide
    omega
   simp only[binOp,Op.stringOp];rw[if_neg]
   ·rfl
   ·simpa[ByteArray.size]using hb
  ·have:(⟨x.toArray⟩++⟨y.toArray⟩:ByteArray)=⟨(x++y).toArray⟩:=by
    apply ByteArray.ext;simp
   rw[this];exact rep_mk_str _ _
 all_goals (subst h;exact⟨_,by simp only[binOp,Op.stringOp,toList_mk];exact Sem.run_pure P w _,zsb7 _ _⟩)
theorem nilPE_ptr {x:AVal} {b:Bool} {v:Value} (h:nilPE x=some b) (hr:RepA C x v):(b=true∧v=.pointer none)∨(b=false∧∃p,v=.pointer (some p)):=by
 cases x<;>simp[nilPE]at h<;>subst h<;>simp only[RepA]at hr
 ·exact .inl ⟨rfl,hr⟩
 ·obtain⟨L,_,h⟩:=hr;exact .inr ⟨rfl,_,h⟩
 ·obtain⟨A,p,_,_,h,_⟩:=hr;exact .inr ⟨rfl,_,h⟩
 ·obtain⟨b,o,cs,h,_⟩:=hr;exact .inr ⟨rfl,_,h⟩
def plainV:Value→Bool
 |.int _ _|.bool _|.string _|.pointer _|.slice _ _ _=>true
 |_=>false
theorem eqGuard_run (op:BinOp) (t:TypeId) (x y:Operand) {u v:Value} (hu:plainV u=true) (w:World):(eqGuard op t x y u v).run P w=.ok () w:=by
 unfold eqGuard;cases u<;>simp[plainV]at hu<;>cases op<;>simp
theorem eqlIn_ptr {t e:TypeId} (h:P.underlying t=some (.pointer e)) (d:Nat) (w:World) (p q:Option Addr) (hn:p=none∨q=none):
  (Op.equalIn (d+1) t (.pointer p) (.pointer q)).run P w=.ok (p.isNone&&q.isNone) w:=by
 rcases hn with hn|hn<;>subst hn
 ·cases q<;>simp only[Op.equalIn,Sem.run_bind,run_underlying h,Result.andThen_ok]<;>rfl
 ·cases p<;>simp only[Op.equalIn,Sem.run_bind,run_underlying h,Result.andThen_ok]<;>rfl
theorem run_eqlPtr {t e:TypeId} (h:P.underlying t=some (.pointer e)) (w:World) (p q:Option Addr) (hn:p=none∨q=none):
  (Op.equal t (.pointer p) (.pointer q)).run P w=.ok (p.isNone&&q.isNone) w:=eqlIn_ptr h 9999 w p q hn
theorem eqlIn_slc {t e:TypeId} (h:P.underlying t=some (.slice e)) (d:Nat) (w:World) (p:Option Addr) (n c:Nat):
  (Op.equalIn (d+1) t (.slice p n c) (.slice none 0 0)).run P w=.ok p.isNone w:=by
 cases p<;>simp only[Op.equalIn,Sem.run_bind,run_underlying h,Result.andThen_ok]<;>rfl
theorem run_eqlSlc {t e:TypeId} (h:P.underlying t=some (.slice e)) (w:World) (p:Option Addr) (n c:Nat):
  (Op.equal t (.slice p n c) (.slice none 0 0)).run P w=.ok p.isNone w:=eqlIn_slc h 9999 w p n c
theorem eqlIn_bool {t:TypeId} (h:P.underlying t=some .bool) (d:Nat) (w:World) (x y:Bool):
  (Op.equalIn (d+1) t (.bool x) (.bool y)).run P w=.ok (x==y) w:=by
 simp only[Op.equalIn,Sem.run_bind,run_underlying h,Result.andThen_ok]<;>rfl
theorem run_eqlBool {t:TypeId} (h:P.underlying t=some .bool) (w:World) (x y:Bool):
  (Op.equal t (.bool x) (.bool y)).run P w=.ok (x==y) w:=eqlIn_bool h 9999 w x y
theorem nilSE_slc {x:AVal} {b:Bool} {v:Value} (h:nilSE x=some b) (hr:RepA C x v):∃p n c,v=.slice p n c∧p.isNone=b:=by
 unfold nilSE at h;split at h<;>simp at h<;>subst h<;>simp only[RepA]at hr
 ·exact⟨none,0,0,hr,rfl⟩
 ·obtain⟨p,c,h1,h2⟩:=hr;exact⟨p,0,c,h1,h2⟩
 ·have:=hr.cell rfl;simp only[RepD]at this;obtain⟨a,cap,h1,_,h3⟩:=this;simp at h1;rcases h3 with h3|⟨b,o,sz,ha,_⟩
  ·simp at h3
  ·subst ha;exact⟨_,_,_,h1,rfl⟩
 ·obtain⟨A,p,cap,h1,h2,h3,h4,h5,_⟩:=hr;have:=h5 (by omega);cases p with
  |none=>simp at this
  |some p=>exact⟨_,_,_,h3,rfl⟩
 ·obtain⟨b,o,cap,cs,h1,_⟩:=hr;exact⟨_,_,_,h1,rfl⟩
theorem cmpE_run (C:Ctx) {op:BinOp} {b:Bool} {v:AVal} (h:cmpE op b=some v) {t:TypeId} {x y:Value} {w:World} (hr:(Op.equal t x y).run P w=.ok b w)
  (hx:∀k n,x≠.int k n) (hx2:∀k n,x≠.float k n) (hx3:∀k n m,x≠.complex k n m) (hx4:∀s,x≠.string s):∃val,(binOp op t x y).run P w=.ok val w∧RepA C v val:=by
 cases op<;>simp only[cmpE,Option.some.injEq,reduceCtorEq]at h
 case eql=>
  subst h;refine⟨.bool b,?_,zsb7 _ _⟩;unfold binOp;split<;>simp_all
 case neq=>
  subst h;refine⟨.bool !b,?_,zsb7 _ _⟩;unfold binOp;split<;>simp_all
def valD:Dat→Value
 |.int k n=>.int k n
 |.bool b=>.bool b
 |.str s=>.string ⟨s.toArray⟩
 |_=>undef
theorem zfb7 {s:Sh} {r:List Sh} {a b:List Dat} {e:Bool} (h:zra7 (s::r) a b=some e):
  ∃x xs y ys e1 e2,a=x::xs∧b=y::ys∧eqCell s x y=some e1∧zra7 r xs ys=some e2∧e=(e1&&e2):=by
 cases a with
 |nil=>cases b<;>simp[zra7]at h
 |cons x xs=>
  cases b with
  |nil=>simp[zra7]at h
  |cons y ys=>
   simp only[zra7]at h;cases e1:eqCell s x y with
   |none=>simp[e1]at h
   |some u=>
    cases e2:zra7 r xs ys with
    |none=>simp[e1,e2]at h
    |some v=>simp[e1,e2]at h;exact⟨x,xs,y,ys,u,v,rfl,rfl,e1,e2,h.symm⟩
theorem zib7 {a b:List Dat} {e:Bool} (h:zra7 [] a b=some e):a=[]∧b=[]∧e=true:=by
 cases a<;>cases b<;>simp[zra7]at h;exact⟨rfl,rfl,h⟩
theorem eqCell_vals {F:Froz} {s:Sh} {x y:Dat} {e:Bool} {c c':Value} (h:eqCell s x y=some e) (hx:RepD F x [c]) (hy:RepD F y [c']):c=valD x∧c'=valD y:=by
 unfold eqCell at h;split at h
 ·simp only[RepD,List.cons.injEq,and_true]at hx hy;exact⟨hx,hy⟩
 ·simp only[RepD,List.cons.injEq,and_true]at hx hy;exact⟨hx,hy⟩
 ·simp only[RepD,List.cons.injEq,and_true]at hx hy;exact⟨hx,hy⟩
 ·cases h
theorem zne7 {F:Froz}:∀{sh:List Sh} {a b:List Dat} {e:Bool} {xs ys:List Value},zra7 sh a b=some e→AggD F a xs→AggD F b ys→xs=a.map valD∧ys=b.map valD
 |[],a,b,e,xs,ys,h,ha,hb=>by
  obtain⟨rfl,rfl,rfl⟩:=zib7 h;simp only[AggD]at ha hb;simp[ha,hb]
 |s::r,a,b,e,xs,ys,h,ha,hb=>by
  obtain⟨x,l,y,l',e1,e2,rfl,rfl,h1,h2,rfl⟩:=zfb7 h;simp only[AggD]at ha hb;obtain⟨c,cs,rfl,_,p1,p2⟩:=ha;obtain⟨c',cs',rfl,_,p3,p4⟩:=hb;obtain⟨q1,q2⟩:=zne7 h2 p2 p4;obtain⟨q3,q4⟩:=eqCell_vals h1 p1 p3;simp[q1,q2,q3,q4]
theorem zoc7:∀{l r:List Sh} {a b:List Dat} {e:Bool},zra7 (l++r) a b=some e→
  ∃e1 e2,zra7 l (a.take l.length) (b.take l.length)=some e1∧zra7 r (a.drop l.length) (b.drop l.length)=some e2∧e=(e1&&e2)
 |[],r,a,b,e,h=>⟨true,e,by simp[zra7],by simpa using h,by simp⟩
 |s::l,r,a,b,e,h=>by
  rw[List.cons_append]at h;obtain⟨x,xs,y,ys,e1,e2,rfl,rfl,h1,h2,rfl⟩:=zfb7 h;obtain⟨u,v,q1,q2,rfl⟩:=zoc7 h2;exact⟨e1&&u,v,by simp[zra7,h1,q1],by simpa using q2,by rw[Bool.and_assoc]⟩
theorem zfe7:∀{sh:List Sh} {a b:List Dat} {e:Bool},zra7 sh a b=some e→a.length=sh.length∧b.length=sh.length
 |[],a,b,e,h=>by
  obtain⟨rfl,rfl,rfl⟩:=zib7 h;simp
 |s::r,a,b,e,h=>by
  obtain⟨x,xs,y,ys,e1,e2,rfl,rfl,h1,h2,rfl⟩:=zfb7 h;have:=zfe7 h2;simp[this]
def mkV (P:Program) (t:TypeId) (a:List Dat):Value:=
 match P.underlying t with
 |some (.struct _)=>.agg (a.map valD).toArray
 |some (.array _ _)=>.agg (a.map valD).toArray
 |_=>(a.map valD).headD undef
theorem run_isAgg' {t:TypeId} {d:TypeDesc} (h:P.underlying t=some d) (w:World):(isAgg t).run P w=.ok (match d with|.struct _|.array _ _=>true|_=>false) w:=by
 simp only[isAgg,Sem.run_bind,run_underlying h,Result.andThen_ok];cases d<;>rfl
theorem run_cellsOf {t:TypeId} (h:(P.info? t).isSome=true) (w:World):(sizeOf t).run P w=.ok (P.cellsOf t) w:=by
 obtain⟨i,hi⟩:=Option.isSome_iff_exists.1 h;simp[sizeOf,run_typeInfo hi,Program.cellsOf,hi]
theorem shape_under {m:Nat} {t:TypeId} {sh:List Sh} (h:shapeOf P m t=some sh):∃d,P.underlying t=some d:=by
 cases m with
 |zero=>simp[shapeOf]at h
 |succ m=>
  unfold shapeOf at h;cases e:P.underlying t with
  |none=>simp[e]at h
  |some d=>exact⟨d,rfl⟩
theorem zdf7 {t:TypeId} {a pre mid post:List Dat} (ha:a=pre++mid++post) (hl:mid.length=P.cellsOf t) (hi:(P.info? t).isSome=true) {m:Nat} {sh:List Sh} (hs:shapeOf P m t=some sh) (hsl:sh.length=mid.length) (w:World):
  (part t (a.map valD).toArray pre.length).run P w=.ok (mkV P t mid) w:=by
 obtain⟨d,hd⟩:=shape_under hs;unfold part;simp only[Sem.run_bind,run_isAgg' hd,Result.andThen_ok]
 have hone:(∀fs,d≠.struct fs)→(∀n e,d≠.array n e)→mid.length=1:=by
  intro h1 h2;rw[←hsl];cases m with
  |zero=>simp[shapeOf]at hs
  |succ m=>
   unfold shapeOf at hs;rw[hd]at hs;cases d<;>simp at hs h1 h2<;>(subst hs;rfl)
 have hagg:((a.map valD).toArray.extract pre.length (pre.length+P.cellsOf t))=(mid.map valD).toArray:=by
  apply Array.toList_inj.1;subst ha;simp[←hl,List.drop_append,List.take_append]
 cases d
 case struct fs=>
  simp only[if_true,Sem.run_bind,run_cellsOf hi,Result.andThen_ok,Sem.run_pure,mkV,hd,hagg]
 case array n e=>
  simp only[if_true,Sem.run_bind,run_cellsOf hi,Result.andThen_ok,Sem.run_pure,mkV,hd,hagg]
 all_goals
  have h1:=hone (by simp) (by simp)
  match mid,h1 with
  |[x],_=>
   subst ha;simp[mkV,hd]
theorem eqFields_run {m d:Nat} (IH:∀(t:TypeId) (sh:List Sh),shapeOf P m t=some sh→∀(a b:List Dat) (e:Bool) (w:World),zra7 sh a b=some e→(Op.equalIn d t (mkV P t a) (mkV P t b)).run P w=.ok e w):
  ∀(fs:List Field) (o:Nat) (sh:List Sh),zsd7 P (shapeOf P m) o fs=some sh→∀(a b pa pb:List Dat) (e:Bool) (w:World),pa.length=o→pb.length=o→zra7 sh a b=some e→
   (Op.eqFields d ((pa++a).map valD).toArray ((pb++b).map valD).toArray fs).run P w=.ok e w
 |[],o,sh,h,a,b,pa,pb,e,w,hpa,hpb,he=>by
  simp only[zsd7,Option.some.injEq]at h;subst h;obtain⟨rfl,rfl,rfl⟩:=zib7 he;simp[Op.eqFields]
 |f::fs,o,sh,h,a,b,pa,pb,e,w,hpa,hpb,he=>by
  simp only[zsd7]at h;split at h
  ·rename_i l r hl hr;split at h
   ·rename_i hc;obtain⟨c1,c2,c3,c4⟩:=hc;simp only[Option.some.injEq]at h;subst h;obtain⟨e1,e2,q1,q2,q3⟩:=zoc7 he;obtain⟨n1,n2⟩:=zfe7 q1;have p1:=zdf7 (P:=P) (t:=f.type) (a:=pa++a) (pre:=pa) (mid:=a.take l.length) (post:=a.drop l.length) (by simp) (by rw[n1,c2]) c4 hl n1.symm w;have p2:=zdf7 (P:=P) (t:=f.type) (a:=pb++b) (pre:=pb) (mid:=b.take l.length) (post:=b.drop l.length) (by simp) (by rw[n2,c2]) c4 hl n2.symm w;rw[hpa]at p1;rw[hpb]at p2;have h3:=IH f.type l hl _ _ e1 w q1;simp only[Op.eqFields,c3,ne_eq,not_false_eq_true,if_true,Sem.run_bind,c1,p1,p2,h3,Result.andThen_ok];cases e1
    ·simp[q3]
    ·have:=eqFields_run IH fs _ r hr (a.drop l.length) (b.drop l.length) (pa++a.take l.length) (pb++b.take l.length) e2 w (by rw[List.length_append,n1,hpa,c2]) (by rw[List.length_append,n2,hpb,c2]) q2;simp only[List.append_assoc,List.take_append_drop]at this;simp only[Bool.not_true,Bool.false_eq_true,if_false,this,q3,Bool.true_and]
   ·cases h
  ·cases h
theorem eqItems_run {d:Nat} {t:TypeId} {l:List Sh} {m:Nat} (hl:shapeOf P m t=some l) (hc:l.length=P.cellsOf t) (hi:(P.info? t).isSome=true)
  (IH:∀(a b:List Dat) (e:Bool) (w:World),zra7 l a b=some e→(Op.equalIn d t (mkV P t a) (mkV P t b)).run P w=.ok e w):
  ∀(n k:Nat) (a b pa pb:List Dat) (e:Bool) (w:World),pa.length=k*P.cellsOf t→pb.length=k*P.cellsOf t→zra7 (List.replicate n l).flatten a b=some e→
   (Op.eqItems d t (P.cellsOf t) ((pa++a).map valD).toArray ((pb++b).map valD).toArray (List.range' k n)).run P w=.ok e w
 |0,k,a,b,pa,pb,e,w,hpa,hpb,he=>by
  simp only[List.replicate_zero,List.flatten_nil]at he;obtain⟨rfl,rfl,rfl⟩:=zib7 he;simp[Op.eqItems]
 |n+1,k,a,b,pa,pb,e,w,hpa,hpb,he=>by
  rw[List.replicate_succ,List.flatten_cons]at he;obtain⟨e1,e2,q1,q2,q3⟩:=zoc7 he;obtain⟨n1,n2⟩:=zfe7 q1;have p1:=zdf7 (P:=P) (t:=t) (a:=pa++a) (pre:=pa) (mid:=a.take l.length) (post:=a.drop l.length) (by simp) (by rw[n1,hc]) hi hl n1.symm w;have p2:=zdf7 (P:=P) (t:=t) (a:=pb++b) (pre:=pb) (mid:=b.take l.length) (post:=b.drop l.length) (by simp) (by rw[n2,hc]) hi hl n2.symm w;rw[hpa]at p1;rw[hpb]at p2;have h3:=IH _ _ e1 w q1;simp only[List.range'_succ,Op.eqItems,Sem.run_bind,p1,p2,h3,Result.andThen_ok];cases e1
  ·simp[q3]
  ·have:=eqItems_run hl hc hi IH n (k+1) (a.drop l.length) (b.drop l.length) (pa++a.take l.length) (pb++b.take l.length) e2 w (by rw[List.length_append,n1,hpa,hc,Nat.add_mul];omega) (by rw[List.length_append,n2,hpb,hc,Nat.add_mul];omega) q2;simp only[List.append_assoc,List.take_append_drop]at this;simp only[Bool.not_true,Bool.false_eq_true,if_false,this,q3,Bool.true_and]
theorem shape_run:∀(m d:Nat) (t:TypeId) (sh:List Sh),shapeOf P m t=some sh→∀(a b:List Dat) (e:Bool) (w:World),zra7 sh a b=some e→
  (Op.equalIn (d+m) t (mkV P t a) (mkV P t b)).run P w=.ok e w
 |0,d,t,sh,h,a,b,e,w,he=>by simp[shapeOf]at h
 |m+1,d,t,sh,h,a,b,e,w,he=>by
  have h0:=h;unfold shapeOf at h;have e0:d+(m+1)=(d+m)+1:=rfl;split at h
  ·rename_i k hu;simp only[Option.some.injEq]at h;subst h;obtain⟨x,xs,y,ys,e1,e2,rfl,rfl,h1,h2,rfl⟩:=zfb7 he;obtain⟨rfl,rfl,rfl⟩:=zib7 h2;unfold eqCell at h1;split at h1<;>(try (rename_i hsh;simp at hsh;done))<;>(try (cases h1;done));rename_i k1 n k2 n' hsh;simp only[Sh.int.injEq]at hsh;subst hsh;split at h1
   ·rename_i hk;obtain⟨rfl,rfl⟩:=hk;simp only[Option.some.injEq]at h1;subst h1;simp only[mkV,hu,List.map_cons,List.headD_cons,valD,Bool.and_true];rw[e0];simp only[Op.equalIn,Sem.run_bind,run_underlying hu,Result.andThen_ok,if_true,Sem.run_pure];rfl
   ·cases h1
  ·rename_i hu;simp only[Option.some.injEq]at h;subst h;obtain⟨x,xs,y,ys,e1,e2,rfl,rfl,h1,h2,rfl⟩:=zfb7 he;obtain⟨rfl,rfl,rfl⟩:=zib7 h2;unfold eqCell at h1;split at h1<;>(try (rename_i hsh;simp at hsh;done))<;>(try (cases h1;done));simp only[Option.some.injEq]at h1;subst h1;simp only[mkV,hu,List.map_cons,List.headD_cons,valD,Bool.and_true];rw[e0];exact eqlIn_bool hu _ w _ _
  ·rename_i hu;simp only[Option.some.injEq]at h;subst h;obtain⟨x,xs,y,ys,e1,e2,rfl,rfl,h1,h2,rfl⟩:=zfb7 he;obtain⟨rfl,rfl,rfl⟩:=zib7 h2;unfold eqCell at h1;split at h1<;>(try (rename_i hsh;simp at hsh;done))<;>(try (cases h1;done));simp only[Option.some.injEq]at h1;subst h1;simp only[mkV,hu,List.map_cons,List.headD_cons,valD,Bool.and_true];rw[e0,run_equalIn_string w _ t _ _ hu];simp[toList_mk]
  ·rename_i fs hu;split at h
   ·cases h
   ·rename_i hg;simp only[Bool.or_eq_true,not_or,Bool.not_eq_true]at hg;have hf:P.fieldsOf t=fs:=by simp[Program.fieldsOf,hu]
    simp only[mkV,hu];rw[e0,run_equalIn_struct w _ t _ _ (by rw[hf];exact hu) hg.1,hf];have:=eqFields_run (P:=P) (m:=m) (d:=d+m) (fun t sh hs a b e w he=>shape_run m d t sh hs a b e w he) fs.toList 0 sh h a b [] [] e w rfl rfl he;simpa using this
  ·rename_i n el hu;split at h
   ·cases h
   ·split at h
    ·rename_i l hl;split at h
     ·rename_i hc;simp only[Option.some.injEq]at h;subst h;obtain⟨i,hi⟩:=Option.isSome_iff_exists.1 hc.2;simp only[mkV,hu];rw[e0,run_equalIn_array w _ _ _ hu hi,List.range_eq_range'];have:=eqItems_run (P:=P) (d:=d+m) hl hc.1 hc.2 (fun a b e w he=>shape_run m d el l hl a b e w he) n 0 a b [] [] e w (by simp) (by simp) he;simpa using this
     ·cases h
    ·cases h
  ·cases h
theorem aggOf_rep {C:Ctx} {x:AVal} {v:Value} {a:List Dat} (h:RepA C x v) (ha:aggOf x=some a):∃cs:Array Value,v=.agg cs∧AggD C.F a cs.toList:=by
 have key:∀(l:List AVal) (ds:List Dat) (cs:List Value),aggOf.datsOf l=some ds→RepL C l cs→l.all AVal.leaf=true→AggD C.F ds cs:=by
  intro l
  induction l with
  |nil=>intro ds cs h1 h2 _;simp only[aggOf.datsOf,Option.some.injEq]at h1;subst h1;simpa[RepL,AggD]using h2
  |cons y r ih=>
   intro ds cs h1 h2 h3;simp only[RepL]at h2;obtain⟨c,cs',rfl,h4,h5⟩:=h2;simp only[List.all_cons,Bool.and_eq_true]at h3;cases y<;>simp only[aggOf.datsOf,reduceCtorEq]at h1;rename_i d;cases e:aggOf.datsOf r with
   |none=>simp[e]at h1
   |some ds'=>
    simp[e]at h1;subst h1;have hd:d.isAgg=false:=by simpa using h3.1
    simp only[RepA]at h4;simp only[AggD];exact⟨c,cs',rfl,hd,h4.cell hd,ih ds' cs' e h5 h3.2⟩
 unfold aggOf at ha;split at ha
 ·simp only[Option.some.injEq]at ha;subst ha;simp only[RepA]at h;exact h.agg
 ·simp only[RepA]at h;obtain⟨cs,h1,h2,h3,_⟩:=h;exact⟨cs,h1,key _ _ _ ha h2 h3⟩
 ·cases ha
theorem bk_agg {t:TypeId} {sh:List Sh} (h:bkOf P t=some (.agg sh)):shapeOf P 6 t=some sh∧P.eqGuardType P.depth t=false∧∀a,mkV P t a=.agg (a.map valD).toArray:=by
 unfold bkOf at h;split at h<;>(try (simp at h;done))
 ·rename_i fs hu
  have hs:shapeOf P 6 t=some sh:=by
   cases e:shapeOf P 6 t with
   |none=>simp[e]at h
   |some l=>simp[e]at h;rw[h]
  refine⟨hs,?_,fun a=>by simp[mkV,hu]⟩;unfold shapeOf at hs;rw[hu]at hs;simp only at hs;split at hs
  ·cases hs
  ·rename_i hg;simp only[Bool.or_eq_true,not_or,Bool.not_eq_true]at hg;exact hg.2
 ·rename_i n e hu
  have hs:shapeOf P 6 t=some sh:=by
   cases e:shapeOf P 6 t with
   |none=>simp[e]at h
   |some l=>simp[e]at h;rw[h]
  refine⟨hs,?_,fun a=>by simp[mkV,hu]⟩;unfold shapeOf at hs;rw[hu]at hs;simp only at hs;split at hs
  ·cases hs
  ·rename_i hg;simpa using hg
theorem op_bin (hI:Inv B C) (hE:RepE C g a) {op:BinOp} {t u:TypeId} {x y:Operand} {ax ay:AX} {bk:BK} {v:AVal} (ho:o.op=.binOp op t x y u) (hbk:bkOf P t=some bk)
  (hx:cX x=some ax) (hy:cX y=some ay) (h:binE bk op (evX g ax) (evX g ay)=some v):Does P o a C.w (Owes B C v []):=by
 have h1:=zea7 hE hx;have h2:=zea7 hE hy
 suffices hs:(plainV (a.eval x)=true∨(eqGuard op t x y (a.eval x) (a.eval y)).run P C.w=.ok () C.w)∧∃val,(binOp op t (a.eval x) (a.eval y)).run P C.w=.ok val C.w∧RepA C v val by
  obtain⟨hp,val,hr,hv⟩:=hs;refine zfa7 hI ?_ hv;have hp':(eqGuard op t x y (a.eval x) (a.eval y)).run P C.w=.ok () C.w:=hp.elim (fun h=>eqGuard_run op t x y h C.w) id;simp only[execOp,ho,Sem.run_bind,hp',Result.andThen_ok,hr,Sem.run_pure]
 generalize evX g ax=X at h h1;generalize evX g ay=Y at h h2;unfold binE at h;split at h
 ·rename_i k x' k' y';have e1:=rep_int h1;have e2:=rep_int h2;rw[e1,e2];refine⟨.inl rfl,?_⟩;split at h
  ·exact shiftE_run C h t C.w
  ·exact shiftE_run C h t C.w
  ·rename_i hs1 hs2;split at h
   ·rename_i hk;subst hk;exact intE_run C h ⟨hs1,hs2⟩ t C.w
   ·cases h
 ·rename_i x' y';have e1:=rep_bool h1;have e2:=rep_bool h2;rw[e1,e2];refine⟨.inl rfl,?_⟩
  have hu:P.underlying t=some .bool:=by
   unfold bkOf at hbk;split at hbk<;>simp_all
  have hq:=run_eqlBool hu C.w x' y';have hc:cmpE op (x'==y')=some v:=by cases op<;>simp_all [boolE,cmpE]
  exact cmpE_run C hc hq (by simp) (by simp) (by simp) (by simp)
 ·rename_i x' y';have e1:=rep_str h1;have e2:=rep_str h2;rw[e1,e2];exact⟨.inl rfl,strE_run C h t C.w⟩
 ·rename_i X';have e2:a.eval y=.pointer none:=by simpa only[RepA]using h2
  obtain⟨e,hu⟩:∃e,P.underlying t=some (.pointer e):=by
   unfold bkOf at hbk;split at hbk<;>simp_all
  split at h
  ·rename_i b hb;rw[e2];rcases nilPE_ptr hb h1 with⟨hb1,hb2⟩|⟨hb1,p,hb2⟩
   ·rw[hb2];subst hb1;exact⟨.inl rfl,cmpE_run C h (run_eqlPtr hu C.w none none (.inl rfl)) (by simp) (by simp) (by simp) (by simp)⟩
   ·rw[hb2];subst hb1;exact⟨.inl rfl,cmpE_run C h (run_eqlPtr hu C.w (some p) none (.inr rfl)) (by simp) (by simp) (by simp) (by simp)⟩
  ·cases h
 ·rename_i Y' _;have e1:a.eval x=.pointer none:=by simpa only[RepA]using h1
  obtain⟨e,hu⟩:∃e,P.underlying t=some (.pointer e):=by
   unfold bkOf at hbk;split at hbk<;>simp_all
  split at h
  ·rename_i b hb;rw[e1];rcases nilPE_ptr hb h2 with⟨hb1,hb2⟩|⟨hb1,p,hb2⟩
   ·rw[hb2];subst hb1;exact⟨.inl rfl,cmpE_run C h (run_eqlPtr hu C.w none none (.inl rfl)) (by simp) (by simp) (by simp) (by simp)⟩
   ·rw[hb2];subst hb1;exact⟨.inl rfl,cmpE_run C h (run_eqlPtr hu C.w none (some p) (.inl rfl)) (by simp) (by simp) (by simp) (by simp)⟩
  ·cases h
 ·rename_i X';have e2:a.eval y=.slice none 0 0:=by simpa only[RepA]using h2
  obtain⟨e,hu⟩:∃e,P.underlying t=some (.slice e):=by
   unfold bkOf at hbk;split at hbk<;>simp_all
  split at h
  ·rename_i b hb;rw[e2];obtain⟨p,n,c,hv,hb2⟩:=nilSE_slc hb h1;rw[hv];subst hb2;exact⟨.inl rfl,cmpE_run C h (run_eqlSlc hu C.w p n c) (by simp) (by simp) (by simp) (by simp)⟩
  ·cases h
 ·rename_i sh _ _;split at h
  ·rename_i xa ya hxa hya;split at h
   ·rename_i e he;obtain⟨xs,e1,g1⟩:=aggOf_rep h1 hxa;obtain⟨ys,e2,g2⟩:=aggOf_rep h2 hya;obtain⟨q1,q2⟩:=zne7 he g1 g2;obtain⟨hsh,hguard,hmk⟩:=bk_agg hbk;have hxs:Value.agg xs=mkV P t xa:=by rw[hmk,←q1]
    have hys:Value.agg ys=mkV P t ya:=by rw[hmk,←q2]
    rw[e1,e2];refine⟨.inr (run_eqGuard_agg C.w op t x y xs ys hguard),cmpE_run C h ?_ (by simp) (by simp) (by simp) (by simp)⟩;rw[hxs,hys];exact shape_run 6 9994 t _ hsh xa ya e C.w he
   ·cases h
  ·cases h
 ·cases h
theorem op_un (hI:Inv B C) (hE:RepE C g a) {op:UnOp} {t:TypeId} {x:Operand} {ax:AX} {v:AVal} (ho:o.op=.unOp op t x) (hx:cX x=some ax)
  (h:unE op (evX g ax)=some v):Does P o a C.w (Owes B C v []):=by
 have h1:=zea7 hE hx;generalize evX g ax=X at h h1;unfold unE at h;split at h
 ·rename_i k n;simp only[Option.some.injEq]at h;subst h;refine zfa7 hI ?_ (zna7 C k _);simp[execOp,ho,rep_int h1,Op.unary,Op.intArith]
 ·rename_i k n;simp only[Option.some.injEq]at h;subst h;refine zfa7 hI ?_ (zna7 C k _);simp only[execOp,ho,rep_int h1,Op.unary,Op.intBits];rfl
 ·rename_i b;simp only[Option.some.injEq]at h;subst h;refine zfa7 hI ?_ (zsb7 C _);simp[execOp,ho,rep_bool h1,Op.unary]
 ·cases h
theorem op_cvt (hI:Inv B C) (hE:RepE C g a) {s d:TypeId} {k k' k'':IntKind} {x:Operand} {ax:AX} {n:Int} (ho:o.op=.convert s d x) (hx:cX x=some ax)
  (hs:P.underlying s=some (.int k')) (hd:P.underlying d=some (.int k)) (h:evX g ax=.dat (.int k'' n)):Does P o a C.w (Owes B C (.dat (.int k (k.wrap n))) []):=by
 have h1:=zea7 hE hx;rw[h]at h1;refine zfa7 hI ?_ (zna7 C k _);simp[execOp,ho,rep_int h1,convert,run_underlying hs,run_underlying hd,Conv.intToInt]
theorem fieldT_spec {t:TypeId} {f off:Nat} {q:TI} (h:fieldT P t f=some (off,q)):∃fs fd,P.underlying t=some (.struct fs)∧fs[f]?=some fd∧tI P fd.type=some q∧fd.offset=off:=by
 unfold fieldT at h;split at h
 ·rename_i fs hu;split at h
  ·rename_i fd hf;cases e:tI P fd.type with
   |none=>simp[e]at h
   |some q'=>simp[e]at h;exact⟨fs,fd,hu,hf,by rw[e,h.2],h.1⟩
  ·cases h
 ·cases h
theorem ptrAdd_rep {n:Nat} {x v:AVal} {val:Value} (h:ptrAdd n x=some v) (hr:RepA C x val):∃p,val=.pointer (some p)∧RepA C v (.pointer (some (p.add n))):=by
 cases x<;>simp[ptrAdd]at h
 case ref id off=>
  subst h;simp only[RepA]at hr;obtain⟨L,h1,h2⟩:=hr;refine⟨_,h2,?_⟩;simp only[RepA];exact⟨L,h1,by rw[Addr.add_mk,Nat.add_assoc]⟩
 case eref id ver i off=>
  subst h;simp only[RepA]at hr;obtain⟨A,p,h1,h2,h3,h4⟩:=hr;refine⟨_,h3,?_⟩;simp only[RepA];refine⟨A,_,h1,h2,rfl,fun e=>⟨(h4 e).1,?_⟩⟩;rw[(h4 e).2,Addr.add_mk,Nat.add_assoc]
 case fp l=>
  obtain⟨hn,h⟩:=h;subst h;simp only[RepA]at hr;obtain⟨b,o,cs,h1,h2,h3⟩:=hr;refine⟨_,h1,?_⟩;simp only[RepA];refine⟨b,o+n,cs.drop n,by rw[Addr.add_mk],h2.drop n,fun j v hj=>?_⟩;rw[List.getElem?_drop]at hj;have:=h3 _ _ hj
  rwa [←Nat.add_assoc]at this
theorem op_fAddr (hI:Inv B C) (hE:RepE C g a) {t:TypeId} {x:Operand} {f off:Nat} {q:TI} {ax:AX} {v:AVal} (ho:o.op=.fieldAddr t x f) (hx:cX x=some ax)
  (hf:fieldT P t f=some (off,q)) (hq:q.size≠0) (h:ptrAdd off (evX g ax)=some v):Does P o a C.w (Owes B C v []):=by
 obtain⟨p,h1,h2⟩:=ptrAdd_rep h (zea7 hE hx);obtain⟨fs,fd,hu,hfd,hti,hoff⟩:=fieldT_spec hf;refine zfa7 hI ?_ h2;simp[execOp,ho,Instr.fieldAt,run_underlying hu,hfd,h1,Instr.sureAddr,fieldPlace,run_sizeOf hti,hq,hoff]
theorem run_part {t:TypeId} {q:TI} (h:tI P t=some q) (cs:Array Value) (off:Nat) (w:World) (hn:q.agg=false→off<cs.size):
  (part t cs off).run P w=.ok (if q.agg then .agg (cs.extract off (off+q.size)) else cs.getD off undef) w:=by
 unfold part;simp only[Sem.run_bind,run_isAgg h,Result.andThen_ok];cases e:q.agg
 ·have:=hn e;simp[this]
 ·simp[run_sizeOf h]
theorem partE_rep {agg:Bool} {off n:Nat} {x v:AVal} {val:Value} (h:partE agg off n x=some v) (hn:1≤n) (hr:RepA C x val):
  ∃cs:Array Value,val=.agg cs∧off<cs.size∧RepA C v (if agg then .agg (cs.extract off (off+n)) else cs.getD off undef):=by
 unfold partE at h;split at h
 ·rename_i l;split at h
  ·rename_i hb;simp only[RepA]at hr;obtain⟨cs,h1,h2,h3,h4⟩:=hr;have hl:cs.size=l.length:=by have:=h2.length;simpa using this
   refine⟨cs,h1,by omega,?_⟩;cases agg
   ·simp only[Bool.false_eq_true,if_false]at h ⊢;obtain⟨c,hc,hr⟩:=h2.get h
    have:cs.getD off undef=c:=by
     have:cs[off]?=some c:=by simpa using hc
     simp[Array.getD_eq_getD_getElem?,this]
    rw[this];exact hr
   ·simp only[if_true,Option.some.injEq]at h ⊢;subst h;simp only[RepA];refine⟨_,rfl,?_,?_,?_⟩
    ·have:=(h2.drop off).take n;simpa[Array.toList_extract,List.extract_eq_take_drop]using this
    ·rw[List.all_eq_true]at h3 ⊢;exact fun x hx=>h3 x (List.mem_of_mem_drop (List.mem_of_mem_take hx))
    ·intro c hc
     have:c∈((cs.toList.drop off).take n):=by
      have:=Array.mem_toList_iff.2 hc;simpa[Array.toList_extract,List.extract_eq_take_drop]using this
     exact h4 c (Array.mem_toList_iff.1 (List.mem_of_mem_drop (List.mem_of_mem_take this)))
  ·cases h
 ·rename_i l;split at h
  ·rename_i hb;simp only[RepA]at hr;obtain⟨cs,h1,h2⟩:=hr.agg;have hl:cs.size=l.length:=by have:=h2.length;simpa using this
   refine⟨cs,h1,by omega,?_⟩;cases agg
   ·simp only[Bool.false_eq_true,if_false]at h ⊢;cases e:l[off]? with
    |none=>simp[e]at h
    |some d=>
     simp[e]at h;subst h;obtain⟨c,hc,hd,hr⟩:=h2.get e
     have:cs.getD off undef=c:=by
      have:cs[off]?=some c:=by simpa using hc
      simp[Array.getD_eq_getD_getElem?,this]
     rw[this];exact zhb7 hd hr
   ·simp only[if_true,Option.some.injEq]at h ⊢;subst h;simp only[RepA];refine repV_agg ?_;have:=(h2.drop off).take n;simpa[Array.toList_extract,List.extract_eq_take_drop]using this
  ·cases h
 ·cases h
theorem op_fld (hI:Inv B C) (hE:RepE C g a) {t:TypeId} {x:Operand} {f off:Nat} {q:TI} {ax:AX} {v:AVal} (ho:o.op=.field t x f) (hx:cX x=some ax)
  (hf:fieldT P t f=some (off,q)) (hq:1≤q.size) (h:partE q.agg off q.size (evX g ax)=some v):Does P o a C.w (Owes B C v []):=by
 obtain⟨cs,h1,h2,h3⟩:=partE_rep h hq (zea7 hE hx);obtain⟨fs,fd,hu,hfd,hti,hoff⟩:=fieldT_spec hf;refine zfa7 hI ?_ h3;simp[execOp,ho,Instr.field,run_underlying hu,hfd,h1,asAgg,hoff,run_part hti cs off C.w (fun _=>h2)]
theorem zab7 {x:AVal} {n:Int} {v:Value} (h:zmb7 x=some n) (hr:RepA C x v):∃k,v=.int k n:=by
 unfold zmb7 at h;split at h
 ·simp at h;subst h;exact⟨_,rep_int hr⟩
 ·cases h
theorem iAddrE_rep {sz:Nat} {x v:AVal} {i:Int} {val:Value} (h:iAddrE sz x i=some v) (hr:RepA C x val):
  ∃p len cap,val=.slice (some p) len cap∧0≤i∧i<len∧RepA C v (.pointer (some (p.add (i.toNat*sz)))):=by
 unfold iAddrE at h;split at h
 ·rename_i id ver sz' off len;split at h
  ·rename_i hc;obtain⟨rfl,h0,h1⟩:=hc;simp only[Option.some.injEq]at h;subst h;simp only[RepA]at hr;obtain⟨A,p,cap,h2,h3,h4,h5,h6,h7⟩:=hr;have hp:=h6 (by omega);cases p with
   |none=>simp at hp
   |some p=>
    refine⟨p,len,cap,h4,h0,h1,?_⟩;simp only[RepA];refine⟨A,_,h2,h3,rfl,fun e=>?_⟩;obtain⟨g1,g2,g3,g4⟩:=h7 e;have:=g4 (by omega);simp only[Option.some.injEq]at this;refine⟨by omega,?_⟩;rw[this,Addr.add_mk]
    congr 1
    rw[←g1,Nat.add_mul];omega
  ·cases h
 ·rename_i l;split at h
  ·rename_i h0;cases e:l[i.toNat]? with
   |none=>simp[e]at h
   |some d=>
    simp only[e]at h;split at h
    ·rename_i hw;simp only[Option.some.injEq]at h;subst h;simp only[RepA]at hr;have:=hr.cell rfl;simp only[RepD]at this;obtain⟨a',cap,q1,q2,q3⟩:=this;simp only[List.cons.injEq,and_true]at q1;have hlt:i.toNat<l.length:=(List.getElem?_eq_some_iff.1 e).1;rcases q3 with q3|⟨b,o,sz',ha,hrow⟩
     ·subst q3;simp at hlt
     ·subst ha;obtain⟨cs,r1,r2,r3⟩:=hrow.get e;have hsz:sz'=sz:=by rw[←r1,r2.length,hw]
      subst hsz;refine⟨_,_,_,q1,h0,by omega,?_⟩;simp only[RepA];exact⟨b,_,cs,by rw[Addr.add_mk],r2.cellsAgg,r3⟩
    ·cases h
  ·cases h
 ·cases h
theorem op_iAddr (hI:Inv B C) (hE:RepE C g a) {t e:TypeId} {x i:Operand} {q:TI} {ax ai:AX} {v:AVal} {n:Int} (ho:o.op=.indexAddr t x i) (hx:cX x=some ax) (hi:cX i=some ai)
  (ht:P.underlying t=some (.slice e)) (hq:tI P e=some q) (hn:zmb7 (evX g ai)=some n) (h:iAddrE q.size (evX g ax) n=some v):Does P o a C.w (Owes B C v []):=by
 obtain⟨p,len,cap,h1,h2,h3,h4⟩:=iAddrE_rep h (zea7 hE hx);obtain⟨k,hk⟩:=zab7 hn (zea7 hE hi);refine zfa7 hI ?_ h4;simp[execOp,ho,Instr.indexAt,hk,asIntOf,run_underlying ht,h1,h2,h3,run_sizeOf hq]
theorem op_iAddrA (hI:Inv B C) (hE:RepE C g a) {t e:TypeId} {m:Nat} {x i:Operand} {q:TI} {ax ai:AX} {v:AVal} {n:Int} (ho:o.op=.indexAddr t x i) (hx:cX x=some ax) (hi:cX i=some ai)
  (ht:P.underlying t=some (.array m e)) (hq:tI P e=some q) (hn:zmb7 (evX g ai)=some n) (hb:0≤n∧n<m) (h:ptrAdd (n.toNat*q.size) (evX g ax)=some v):Does P o a C.w (Owes B C v []):=by
 obtain⟨p,h1,h2⟩:=ptrAdd_rep h (zea7 hE hx);obtain⟨k,hk⟩:=zab7 hn (zea7 hE hi);refine zfa7 hI ?_ h2;simp[execOp,ho,Instr.indexAt,hk,asIntOf,run_underlying ht,h1,hb.1,hb.2,Instr.sureAddr,run_sizeOf hq]
theorem op_idx (hI:Inv B C) (hE:RepE C g a) {t e:TypeId} {m:Nat} {x i:Operand} {q:TI} {ax ai:AX} {v:AVal} {n:Int} (ho:o.op=.index t x i) (hx:cX x=some ax) (hi:cX i=some ai)
  (ht:P.underlying t=some (.array m e)) (hq:tI P e=some q) (hq1:1≤q.size) (hn:zmb7 (evX g ai)=some n) (hb:0≤n∧n<m) (h:partE q.agg (n.toNat*q.size) q.size (evX g ax)=some v):Does P o a C.w (Owes B C v []):=by
 obtain⟨cs,h1,h2,h3⟩:=partE_rep h hq1 (zea7 hE hx);obtain⟨k,hk⟩:=zab7 hn (zea7 hE hi);refine zfa7 hI ?_ h3;simp[execOp,ho,Instr.index,hk,asIntOf,run_underlying ht,h1,hb.1,hb.2,run_sizeOf hq,run_part hq cs _ C.w (fun _=>h2)]
theorem op_idxS (hI:Inv B C) (hE:RepE C g a) {t:TypeId} {x i:Operand} {ax ai:AX} {n:Int} {s:List UInt8} {b:UInt8} (ho:o.op=.index t x i) (hx:cX x=some ax) (hi:cX i=some ai)
  (ht:P.underlying t=some .string) (hn:zmb7 (evX g ai)=some n) (hs:evX g ax=.dat (.str s)) (h0:0≤n) (hb:s[n.toNat]?=some b):Does P o a C.w (Owes B C (.dat (.int .u8 b.toNat)) []):=by
 have h1:=zea7 hE hx;rw[hs]at h1;obtain⟨k,hk⟩:=zab7 hn (zea7 hE hi);refine zfa7 hI ?_ (zna7 C _ _);have hlt:=(List.getElem?_eq_some_iff.1 hb).1;have hsz:n.toNat<(ByteArray.mk s.toArray).size:=by simpa[ByteArray.size]using hlt
 have hget:(ByteArray.mk s.toArray)[n.toNat]?=some b:=by
  rw[getElem?_pos (ByteArray.mk s.toArray) n.toNat hsz];have h2:=(List.getElem?_eq_some_iff.1 hb).2;simpa[ByteArray.getElem_eq_getElem_data]using h2
 simp[execOp,ho,Instr.index,hk,asIntOf,run_underlying ht,rep_str h1,h0,hget]
theorem op_ext (hI:Inv B C) (hE:RepE C g a) {x:Operand} {i:Nat} {ax:AX} {v:AVal} {l:List AVal} (ho:o.op=.extract x i) (hx:cX x=some ax) (hl:evX g ax=.tup l) (hv:l[i]?=some v):
  Does P o a C.w (Owes B C v []):=by
 have h1:=zea7 hE hx;rw[hl]at h1;simp only[RepA]at h1;obtain⟨cs,h2,h3⟩:=h1;obtain⟨c,h4,h5⟩:=h3.get hv;refine zfa7 hI ?_ h5;have:cs[i]?=some c:=by simpa using h4
 simp[execOp,ho,Instr.extract,h2,this]
theorem lenE_rep {x v:AVal} {val:Value} (h:lenE x=some v) (hr:RepA C x val):∃p n c,val=.slice p n c∧v=.dat (.int .i64 n):=by
 unfold lenE at h;split at h<;>simp only[Option.some.injEq,reduceCtorEq]at h<;>subst h<;>simp only[RepA]at hr
 ·obtain⟨A,p,cap,_,_,h4,_⟩:=hr;exact⟨_,_,_,h4,rfl⟩
 ·have:=hr.cell rfl;simp only[RepD]at this;obtain⟨a,cap,h1,_⟩:=this;simp only[List.cons.injEq,and_true]at h1;exact⟨_,_,_,h1,rfl⟩
 ·exact⟨none,0,0,hr,rfl⟩
 ·obtain⟨p,c,h1,h2⟩:=hr;exact⟨p,0,c,h1,rfl⟩
 ·obtain⟨p,h1⟩:=hr;exact⟨p,0,0,h1,rfl⟩
 ·obtain⟨b,o,cap,cs,h1,_⟩:=hr;exact⟨_,_,_,h1,rfl⟩
theorem op_len (hI:Inv B C) (hE:RepE C g a) {c:Call} {x:Operand} {ax:AX} {v:AVal} {t e:TypeId} (ho:o.op=.call c) (hc:c.callee=.builtin .len) (ha:c.args=#[x]) (ht:c.argTypes[0]?=some t)
  (hu:P.underlying t=some (.slice e)) (hx:cX x=some ax) (h:lenE (evX g ax)=some v):Does P o a C.w (Owes B C v []):=by
 obtain⟨p,n,cc,h1,rfl⟩:=lenE_rep h (zea7 hE hx);refine zfa7 hI ?_ (zna7 C _ _)
 have hrun:(Builtin.len_ c.argTypes o.type #[a.eval x]).run P C.w=.ok (.int .i64 n) C.w:=by
  unfold Builtin.len_;simp[ht,h1,run_underlying hu,goInt]
 simp[execOp,ho,resolve,hc,ha,invoke,builtin,hrun]
theorem op_cap (hI:Inv B C) (hE:RepE C g a) {c:Call} {x:Operand} {ax:AX} {v:AVal} {t e:TypeId} (ho:o.op=.call c) (hc:c.callee=.builtin .cap) (ha:c.args=#[x]) (ht:c.argTypes[0]?=some t)
  (hu:P.underlying t=some (.slice e)) (hx:cX x=some ax) (h:capE (evX g ax)=some v):Does P o a C.w (Owes B C v []):=by
 have hr:=zea7 (C:=C) hE hx
 have:(∃p n,a.eval x=.slice p n 0)∧v=.dat (.int .i64 0):=by
  unfold capE at h;split at h
  ·rename_i e;rw[e]at hr;simp only[RepA]at hr;cases h;exact⟨⟨_,_,hr⟩,rfl⟩
  ·rename_i e;rw[e]at hr;simp only[RepA]at hr;obtain⟨p,hr⟩:=hr;cases h;exact⟨⟨_,_,hr⟩,rfl⟩
  ·cases h
 obtain⟨⟨p,n,h1⟩,rfl⟩:=this;refine zfa7 hI ?_ (zna7 C _ _)
 have hrun:(Builtin.cap_ c.argTypes o.type #[a.eval x]).run P C.w=.ok (.int .i64 0) C.w:=by
  unfold Builtin.cap_;simp[ht,h1,run_underlying hu,goInt]
 simp[execOp,ho,resolve,hc,ha,invoke,builtin,hrun]
theorem op_lenS (hI:Inv B C) (hE:RepE C g a) {c:Call} {x:Operand} {ax:AX} {v:AVal} {t:TypeId} (ho:o.op=.call c) (hc:c.callee=.builtin .len) (ha:c.args=#[x]) (ht:c.argTypes[0]?=some t)
  (hu:P.underlying t=some .string) (hx:cX x=some ax) (h:lenS (evX g ax)=some v):Does P o a C.w (Owes B C v []):=by
 have hr:=zea7 hE hx;unfold lenS at h;split at h
 ·rename_i s hs;rw[hs]at hr;simp only[Option.some.injEq]at h;subst h;refine zfa7 hI ?_ (zna7 C _ _)
  have hrun:(Builtin.len_ c.argTypes o.type #[a.eval x]).run P C.w=.ok (.int .i64 s.length) C.w:=by
   unfold Builtin.len_;simp only[ht,rep_str hr];simp[run_underlying hu,goInt];rfl
  simp[execOp,ho,resolve,hc,ha,invoke,builtin,hrun]
 ·cases h
theorem mmE_run {isMax:Bool} {x y v:AVal} {u w':Value} (h:mmE isMax x y=some v) (hx:RepA C x u) (hy:RepA C y w') (w:World):
  ∃val,(if isMax then Builtin.max2 u w' else Builtin.min2 u w').run P w=.ok val w∧RepA C v val:=by
 unfold mmE at h;split at h
 ·rename_i k p k' q;split at h
  ·rename_i hk;subst hk;rw[rep_int hx,rep_int hy];cases isMax
   ·simp only[Bool.false_eq_true,if_false,Option.some.injEq]at h ⊢;subst h;exact⟨_,rfl,zna7 _ _ _⟩
   ·simp only[if_true,Option.some.injEq]at h ⊢;subst h;exact⟨_,rfl,zna7 _ _ _⟩
  ·cases h
 ·cases h
theorem mmsE_run {isMax:Bool}:∀{r:List AVal} {x v:AVal} {u:Value} {us:List Value},mmsE isMax x r=some v→RepA C x u→RepL C r us→∀(w:World),
  ∃val,(us.foldlM (if isMax then Builtin.max2 else Builtin.min2) u).run P w=.ok val w∧RepA C v val
 |[],x,v,u,us,h,hx,hr,w=>by
  simp only[RepL]at hr;subst hr;simp only[mmsE]at h;split at h
  ·simp only[Option.some.injEq]at h;subst h;exact⟨u,rfl,hx⟩
  ·cases h
 |y::r,x,v,u,us,h,hx,hr,w=>by
  simp only[RepL]at hr;obtain⟨c,cs,rfl,h2,h3⟩:=hr;simp only[mmsE]at h;split at h
  ·rename_i z hz;obtain⟨val,h4,h5⟩:=mmE_run (P:=P) hz hx h2 w;obtain⟨val',h6,h7⟩:=mmsE_run h h5 h3 w;refine⟨val',?_,h7⟩;have h4':((if isMax then Builtin.max2 else Builtin.min2) u c).run P w=.ok val w:=by cases isMax<;>simpa using h4
   simp only[List.foldlM_cons,Sem.run_bind,h4',Result.andThen_ok,h6]
  ·cases h
theorem op_mm (hI:Inv B C) (hE:RepE C g a) {isMax:Bool} {c:Call} {ax:AX} {r:List AX} {v:AVal} (ho:o.op=.call c) (hc:c.callee=.builtin (if isMax then .max else .min))
  (ha:cXs c.args=some (ax::r)) (h:mmsE isMax (evX g ax) (r.map (evX g))=some v):Does P o a C.w (Owes B C v []):=by
 have hr:=cXs_rep (C:=C) hE ha;simp only[List.map_cons,RepL]at hr;obtain⟨u,us,h1,h2,h3⟩:=hr;obtain⟨val,h4,h5⟩:=mmsE_run (P:=P) h h2 h3 C.w;refine zfa7 hI ?_ h5;have hargs:(c.args.map a.eval).toList=u::us:=by simpa using h1
 have hargs':c.args.map a.eval=(u::us).toArray:=by rw[←hargs]
 cases isMax
 ·simp only[Bool.false_eq_true,if_false]at hc h4;simp[execOp,ho,resolve,hc,invoke,builtin,Builtin.min_,hargs',h4]
 ·simp only[if_true]at hc h4;simp[execOp,ho,resolve,hc,invoke,builtin,Builtin.max_,hargs',h4]
def optX (x:Option Operand):Option (Option AX):=
 match x with
 |some l=>(cX l).map some
 |none=>some none
theorem run_sliceBound {v:Value} {k:IntKind} {i:Int} (hv:v=.int k i) (y:Nat) (code:BoundsCode) (h:0≤i∧i≤y) (w:World):(Instr.sliceBound v y code).run P w=.ok i.toNat w:=by
 subst hv;simp[Instr.sliceBound,asIntOf,h.1,h.2]
theorem zkf7 (isSlice:Bool) (len cap:Nat) {lo hi:Option Value} {l h:Int} (w:World)
  (hlo:(lo=none∧l=0)∨∃k,lo=some (.int k l)) (hhi:(hi=none∧h=len)∨∃k,hi=some (.int k h)) (hb:0≤l∧l≤h∧h≤cap):
  (Instr.sliceBounds isSlice len cap lo hi none).run P w=.ok (l.toNat,h.toNat,cap) w:=by
 have hs1:∀(k:IntKind) (y:Nat) (code:BoundsCode),(y:Int)=h→(Instr.sliceBound (.int k l) y code).run P w=.ok l.toNat w:=fun k y code hy=>run_sliceBound rfl y code ⟨hb.1,by omega⟩ w
 have hs2:∀(k:IntKind) (code:BoundsCode),(Instr.sliceBound (.int k h) cap code).run P w=.ok h.toNat w:=fun k code=>run_sliceBound rfl cap code ⟨by omega,hb.2.2⟩ w
 have e1:((h.toNat:Nat):Int)=h:=by omega
 rcases hlo with⟨rfl,rfl⟩|⟨k,rfl⟩<;>rcases hhi with⟨rfl,rfl⟩|⟨k',rfl⟩
 ·simp[Instr.sliceBounds]
 ·simp only[Instr.sliceBounds,Sem.run_bind,Sem.run_pure,Result.andThen_ok,hs2];rfl
 ·have:=hs1 k len;simp only[Instr.sliceBounds,Sem.run_bind,Sem.run_pure,Result.andThen_ok,Int.toNat_natCast];rw[hs1 k len _ rfl];rfl
 ·simp only[Instr.sliceBounds,Sem.run_bind,Sem.run_pure,Result.andThen_ok,hs2];rw[hs1 k h.toNat _ e1];rfl
theorem optX_lo {C:Ctx} {g:Nat→AVal} (hE:RepE C g a) {lo:Option Operand} {alo:Option AX} (h:optX lo=some alo) {l:Int}
  (hl:(match alo with|some l=>zmb7 (evX g l)|none=>some 0)=some l):(lo.map a.eval=none∧l=0)∨∃k,lo.map a.eval=some (.int k l):=by
 cases lo with
 |none=>simp[optX]at h;subst h;simp at hl;exact .inl ⟨rfl,hl.symm⟩
 |some x=>
  simp only[optX]at h;cases e:cX x with
  |none=>simp[e]at h
  |some ax=>
   simp[e]at h;subst h;obtain⟨k,hk⟩:=zab7 hl (zea7 hE e);exact .inr ⟨k,by simp[hk]⟩
theorem optX_hi {C:Ctx} {g:Nat→AVal} (hE:RepE C g a) {hi:Option Operand} {ahi:Option AX} (h:optX hi=some ahi) {hh:Option Int}
  (hl:(match ahi with|some l=>(zmb7 (evX g l)).map some|none=>some none)=some hh) (len:Nat):(hi.map a.eval=none∧hh.getD len=len)∨∃k,hi.map a.eval=some (.int k (hh.getD len)):=by
 cases hi with
 |none=>simp[optX]at h;subst h;simp at hl;subst hl;exact .inl ⟨rfl,rfl⟩
 |some x=>
  simp only[optX]at h;cases e:cX x with
  |none=>simp[e]at h
  |some ax=>
   simp[e]at h;subst h;simp only at hl;cases e':zmb7 (evX g ax) with
   |none=>simp[e']at hl
   |some n=>
    simp[e']at hl;subst hl;obtain⟨k,hk⟩:=zab7 e' (zea7 hE e);exact .inr ⟨k,by simp[hk]⟩
theorem RowD.drop {F:Froz}:∀{l:List Dat} {b o sz:Nat},RowD F l b o sz→∀n,RowD F (l.drop n) b (o+n*sz) sz:=by
 intro l b o sz h n;refine rowD_of fun i d hd=>?_
 rw[List.getElem?_drop]at hd;obtain⟨cs,h1,h2,h3⟩:=h.get hd;refine⟨cs,h1,h2,?_⟩
 rwa [show o+n*sz+i*sz=o+(n+i)*sz by rw[Nat.add_mul];omega]
theorem RowD.take {F:Froz}:∀{l:List Dat} {b o sz:Nat},RowD F l b o sz→∀n,RowD F (l.take n) b o sz:=by
 intro l b o sz h n;refine rowD_of fun i d hd=>?_
 rw[List.getElem?_take]at hd;split at hd
 ·exact h.get hd
 ·cases hd
theorem sliceE_rep {sz:Nat} {x v:AVal} {lo:Int} {hi:Option Int} {val:Value} (h:sliceE sz x lo hi=some v) (hr:RepA C x val):
  ∃p len cap,val=.slice p len cap∧0≤lo∧lo≤hi.getD len∧hi.getD len≤cap∧
   RepA C v (.slice (if cap=lo.toNat then p else p.map (·.add (lo.toNat*sz))) ((hi.getD len).toNat-lo.toNat) (cap-lo.toNat)):=by
 unfold sliceE at h;split at h
 ·rename_i id ver sz' off len;simp only at h;split at h
  ·rename_i hc;obtain⟨h0,h1,h2,rfl⟩:=hc;simp only[Option.some.injEq]at h;subst h;simp only[RepA]at hr;obtain⟨A,p,cap,q1,q2,q3,q4,q5,q6⟩:=hr;refine⟨p,len,cap,q3,h0,h1,by omega,?_⟩;simp only[RepA];refine⟨A,(if cap=lo.toNat then p else p.map (·.add (lo.toNat*sz))),cap-lo.toNat,q1,q2,?_,by omega,?_,fun e=>?_⟩
   ·congr 1;omega
   ·intro hcap;rw[if_neg (by omega)];have:=q5 (by omega);cases p with
    |none=>simp at this
    |some p=>rfl
   ·obtain⟨g1,g2,g3,g4⟩:=q6 e;refine⟨g1,by omega,?_,fun hcap=>?_⟩
    ·rw[g3];congr 1;omega
    ·rw[if_neg (by omega),g4 (by omega)];simp only[Option.map_some,Addr.add_mk]
     congr 2
     rw[Nat.add_mul];omega
  ·cases h
 ·rename_i l;simp only at h;split at h
  ·rename_i hc;obtain⟨h0,h1,h2,h3⟩:=hc;simp only[Option.some.injEq]at h;subst h;simp only[RepA]at hr;have:=hr.cell rfl;simp only[RepD]at this;obtain⟨p,cap,q1,q2,q3⟩:=this;simp only[List.cons.injEq,and_true]at q1;refine⟨p,l.length,cap,q1,h0,h1,by omega,?_⟩;simp only[RepA];refine zhb7 rfl ?_;simp only[RepD];refine⟨_,_,by simp only[List.length_take,List.length_drop];congr 2;omega,by simp only[List.length_take,List.length_drop];omega,?_⟩;rcases q3 with q3|⟨b,o,sz',ha,hrow⟩
   ·subst q3;exact .inl (by simp)
   ·by_cases hl:(l.drop lo.toNat).take ((hi.getD ↑l.length)-lo).toNat=[]
    ·exact .inl hl
    ·right
     have hne:lo.toNat<l.length:=by
      rcases Nat.lt_or_ge lo.toNat l.length with h|h
      ·exact h
      ·exfalso;apply hl;rw[List.drop_eq_nil_of_le h];simp
     have hsz:sz'=sz:=by
      cases l with
      |nil=>simp at hne
      |cons d r=>
       have w1:=hrow.width d (by simp);simp at h3;omega
     subst hsz;refine⟨b,o+lo.toNat*sz',sz',?_,(hrow.drop lo.toNat).take _⟩;rw[if_neg (by omega),ha];simp[Addr.add_mk]
  ·cases h
 ·split at h
  ·rename_i hc;obtain⟨rfl,h1⟩:=hc;simp only[Option.some.injEq]at h;subst h;simp only[RepA]at hr;have h1':hi.getD ((0:Nat):Int)=0:=by simpa using h1
   refine⟨none,0,0,hr,by omega,by omega,by omega,?_⟩;rw[h1'];simp[RepA]
  ·cases h
 ·cases h
theorem op_slc (hI:Inv B C) (hE:RepE C g a) {t e:TypeId} {x:Operand} {lo hi:Option Operand} {q:TI} {ax:AX} {alo ahi:Option AX} {v:AVal} {l:Int} {hh:Option Int} (ho:o.op=.slice t x lo hi none) (hx:cX x=some ax)
  (hlo:optX lo=some alo) (hhi:optX hi=some ahi) (ht:P.underlying t=some (.slice e)) (hq:tI P e=some q)
  (hl:(match alo with|some l=>zmb7 (evX g l)|none=>some 0)=some l) (hhv:(match ahi with|some l=>(zmb7 (evX g l)).map some|none=>some none)=some hh)
  (h:sliceE q.size (evX g ax) l hh=some v):Does P o a C.w (Owes B C v []):=by
 obtain⟨p,len,cap,h1,h2,h3,h4,h5⟩:=sliceE_rep h (zea7 hE hx);refine zfa7 hI ?_ h5;have hb:=zkf7 (P:=P) true len cap C.w (optX_lo hE hlo hl) (optX_hi hE hhi hhv len) ⟨h2,h3,h4⟩;simp only[execOp,ho,Instr.sliceAt,Sem.run_bind,run_underlying ht,Result.andThen_ok,Instr.slice,h1,Option.map_none,hb,run_sizeOf hq,Sem.run_pure]
theorem extract_mk (s:List UInt8) (l h:Nat):(ByteArray.mk s.toArray).extract l h=ByteArray.mk ((s.drop l).take (h-l)).toArray:=by
 apply ByteArray.ext;simp[ByteArray.data_extract,List.extract_eq_take_drop]
theorem op_slcS (hI:Inv B C) (hE:RepE C g a) {t:TypeId} {x:Operand} {lo hi:Option Operand} {ax:AX} {alo ahi:Option AX} {v:AVal} {l:Int} {hh:Option Int} (ho:o.op=.slice t x lo hi none) (hx:cX x=some ax)
  (hlo:optX lo=some alo) (hhi:optX hi=some ahi) (ht:P.underlying t=some .string)
  (hl:(match alo with|some l=>zmb7 (evX g l)|none=>some 0)=some l) (hhv:(match ahi with|some l=>(zmb7 (evX g l)).map some|none=>some none)=some hh)
  (h:sliceS (evX g ax) l hh=some v):Does P o a C.w (Owes B C v []):=by
 have hr:=zea7 hE hx;unfold sliceS at h;split at h
 ·rename_i s hs;rw[hs]at hr;simp only at h;split at h
  ·rename_i hc;obtain⟨h0,h1,h2⟩:=hc;simp only[Option.some.injEq]at h;subst h;refine zfa7 hI ?_ (rep_mk_str C _);have hb:=zkf7 (P:=P) false s.length s.length C.w (optX_lo hE hlo hl) (optX_hi hE hhi hhv s.length) ⟨h0,h1,h2⟩;have hsz:(ByteArray.mk s.toArray).size=s.length:=by simp[ByteArray.size]
   simp only[execOp,ho,Instr.sliceAt,Sem.run_bind,run_underlying ht,Result.andThen_ok,Instr.slice,rep_str hr,Option.map_none,Option.isSome_none,Bool.false_eq_true,if_false,hsz,hb,Sem.run_pure,extract_mk];have e:(hh.getD ↑s.length).toNat-l.toNat=(hh.getD ↑s.length-l).toNat:=by omega
   rw[e]
  ·cases h
 ·cases h
theorem op_slc0 (hI:Inv B C) (hE:RepE C g a) {t e:TypeId} {x lo hi mx:Operand} {ax al ah am:AX} {v:AVal} (ho:o.op=.slice t x (some lo) (some hi) (some mx)) (hx:cX x=some ax) (hl:cX lo=some al) (hh:cX hi=some ah) (hm:cX mx=some am)
  (ht:P.underlying t=some (.slice e)) (hq:(tI P e).isSome=true) (h1:zmb7 (evX g al)=some 0) (h2:zmb7 (evX g ah)=some 0) (h3:zmb7 (evX g am)=some 0) (h:cap0E (evX g ax)=some v):Does P o a C.w (Owes B C v []):=by
 obtain⟨p,n,c,e1,e2⟩:=cap0E_rep h (zea7 hE hx);obtain⟨q,hq⟩:=Option.isSome_iff_exists.1 hq;obtain⟨k1,k1'⟩:=zab7 h1 (zea7 hE hl);obtain⟨k2,k2'⟩:=zab7 h2 (zea7 hE hh);obtain⟨k3,k3'⟩:=zab7 h3 (zea7 hE hm);refine zfa7 hI (val:=.slice p 0 0) ?_ e2;simp[execOp,ho,Instr.sliceAt,Instr.slice,Instr.sliceBounds,Instr.sliceBound,asIntOf,k1',k2',k3',e1,run_underlying ht,run_sizeOf hq]
end
end Go.Am
