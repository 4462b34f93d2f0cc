/- Parts of the proofs of the statement, joined and made short: VIns ETab EY V1 EW1 EW2 EW5 EW3 EW4 EW7 EW13. -/
import Derived.Test.YtmoibjjpfemgjaaGreatDoorP26
import Derived.Test.YtmoibjjpfemgjaaGreatDoorP17
import Derived.Test.YtmoibjjpfemgjaaGreatDoorP21
import Derived.Test.YtmoibjjpfemgjaaGreatDoorP22
import Derived.Test.YtmoibjjpfemgjaaGreatDoorP23
import Derived.Test.YtmoibjjpfemgjaaGreatDoorP24
import Derived.Test.YtmoibjjpfemgjaaGreatDoorP18
import Derived.Test.YtmoibjjpfemgjaaGreatDoorP19
import Derived.Test.YtmoibjjpfemgjaaGreatDoorProg
import Derived.KernelRfl
set_option linter.unusedVariables false
set_option linter.unusedSimpArgs false
set_option linter.unusedSectionVars false
set_option maxRecDepth 10000
namespace Go.Am
open Go.Proofs Go.Shelf
variable [Glob]
theorem info_of {P:Program} {t:TypeId} {k:Nat} (h:(match P.info? t with|some i=>(match i.zero with|some z=>decide (i.size=k)&&decide (z.cells.size=k)|none=>false)|none=>false)=true):∃i z,P.info? t=some i∧i.size=k∧i.zero=some z∧z.cells.size=k:=by
 split at h
 ·rename_i i hi;split at h
  ·rename_i z hz;simp only[Bool.and_eq_true,decide_eq_true_eq]at h;exact⟨i,z,hi,h.1,hz,h.2⟩
  ·cases h
 ·cases h
def r164:Ren:=⟨fun|22=>164|29=>226|30=>227|n=>n,fun|0=>0|3=>3|4=>4|24=>31|9=>81|n=>n,fun|n=>n⟩
theorem i164:InsL Tryz.prog r164 17:={
 mixed:=by kernel_rfl
 f22:=⟨Tryz.f164.name,Tryz.f164.origin,Tryz.f164.targs,Tryz.f164.file,Tryz.f164.endLine,Tryz.f164.litNo,Tryz.func164.trans (congrArg some (by kernel_rfl))⟩
 ov:=run_callFunc_extern Tryz.func226 (by kernel_rfl) (by kernel_rfl) (by kernel_rfl) (by kernel_rfl)
 t0:=Tryz.underlying0
 a0:=Tryz.isAgg0
 z0:=Tryz.sizeOf0
 v0:=Tryz.zeroValue0
 t3:=Tryz.underlying3
 a3:=Tryz.isAgg3
 z3:=Tryz.sizeOf3
 v3:=Tryz.zeroValue3
 t4:=Tryz.underlying4
 a4:=Tryz.isAgg4
 z4:=Tryz.sizeOf4
 v4:=Tryz.zeroValue4
 t24:=Tryz.underlying31
 a24:=Tryz.isAgg31
 z24:=Tryz.sizeOf31
 v24:=Tryz.zeroValue31
 i9:=info_of (by kernel_rfl)
 k0:=by decide }
theorem q164:tI Tryz.prog 81=some ⟨17,152,true,some [.dat (.int .i64 0),.dat (.int .i64 0),.dat (.int .i64 0),.dat (.int .i64 0),.dat (.int .i64 0),.dat (.int .i64 0),.dat (.int .i64 0),.dat (.int .i64 0),.dat (.int .i64 0),.dat (.int .i64 0),.dat (.int .i64 0),.dat (.int .i64 0),.dat (.int .i64 0),.dat (.int .i64 0),.dat (.int .i64 0),.dat (.int .i64 0),.nils]⟩:=by kernel_rfl
def r165:Ren:=⟨fun|22=>165|29=>228|30=>229|n=>n,fun|0=>0|3=>3|4=>4|24=>33|9=>32|n=>n,fun|n=>n⟩
theorem i165:InsL Tryz.prog r165 1:={
 mixed:=by kernel_rfl
 f22:=⟨Tryz.f165.name,Tryz.f165.origin,Tryz.f165.targs,Tryz.f165.file,Tryz.f165.endLine,Tryz.f165.litNo,Tryz.func165.trans (congrArg some (by kernel_rfl))⟩
 ov:=run_callFunc_extern Tryz.func228 (by kernel_rfl) (by kernel_rfl) (by kernel_rfl) (by kernel_rfl)
 t0:=Tryz.underlying0
 a0:=Tryz.isAgg0
 z0:=Tryz.sizeOf0
 v0:=Tryz.zeroValue0
 t3:=Tryz.underlying3
 a3:=Tryz.isAgg3
 z3:=Tryz.sizeOf3
 v3:=Tryz.zeroValue3
 t4:=Tryz.underlying4
 a4:=Tryz.isAgg4
 z4:=Tryz.sizeOf4
 v4:=Tryz.zeroValue4
 t24:=Tryz.underlying33
 a24:=Tryz.isAgg33
 z24:=Tryz.sizeOf33
 v24:=Tryz.zeroValue33
 i9:=info_of (by kernel_rfl)
 k0:=by decide }
theorem q165:tI Tryz.prog 32=some ⟨1,24,false,some [.nils]⟩:=by kernel_rfl
def r231:Ren:=⟨fun|22=>231|29=>255|30=>256|n=>n,fun|0=>0|3=>3|4=>4|24=>65|9=>68|n=>n,fun|n=>n⟩
theorem i231:InsL Tryz.prog r231 3:={
 mixed:=by kernel_rfl
 f22:=⟨Tryz.f231.name,Tryz.f231.origin,Tryz.f231.targs,Tryz.f231.file,Tryz.f231.endLine,Tryz.f231.litNo,Tryz.func231.trans (congrArg some (by kernel_rfl))⟩
 ov:=run_callFunc_extern Tryz.func255 (by kernel_rfl) (by kernel_rfl) (by kernel_rfl) (by kernel_rfl)
 t0:=Tryz.underlying0
 a0:=Tryz.isAgg0
 z0:=Tryz.sizeOf0
 v0:=Tryz.zeroValue0
 t3:=Tryz.underlying3
 a3:=Tryz.isAgg3
 z3:=Tryz.sizeOf3
 v3:=Tryz.zeroValue3
 t4:=Tryz.underlying4
 a4:=Tryz.isAgg4
 z4:=Tryz.sizeOf4
 v4:=Tryz.zeroValue4
 t24:=Tryz.underlying65
 a24:=Tryz.isAgg65
 z24:=Tryz.sizeOf65
 v24:=Tryz.zeroValue65
 i9:=info_of (by kernel_rfl)
 k0:=by decide }
theorem q231:tI Tryz.prog 68=some ⟨3,40,true,some [.dat (.int .i64 0),.dat (.int .i64 0),.nils]⟩:=by kernel_rfl
def r232:Ren:=⟨fun|22=>232|29=>257|30=>258|n=>n,fun|0=>0|3=>3|4=>4|24=>32|9=>3|n=>n,fun|n=>n⟩
theorem i232:InsL Tryz.prog r232 1:={
 mixed:=by kernel_rfl
 f22:=⟨Tryz.f232.name,Tryz.f232.origin,Tryz.f232.targs,Tryz.f232.file,Tryz.f232.endLine,Tryz.f232.litNo,Tryz.func232.trans (congrArg some (by kernel_rfl))⟩
 ov:=run_callFunc_extern Tryz.func257 (by kernel_rfl) (by kernel_rfl) (by kernel_rfl) (by kernel_rfl)
 t0:=Tryz.underlying0
 a0:=Tryz.isAgg0
 z0:=Tryz.sizeOf0
 v0:=Tryz.zeroValue0
 t3:=Tryz.underlying3
 a3:=Tryz.isAgg3
 z3:=Tryz.sizeOf3
 v3:=Tryz.zeroValue3
 t4:=Tryz.underlying4
 a4:=Tryz.isAgg4
 z4:=Tryz.sizeOf4
 v4:=Tryz.zeroValue4
 t24:=Tryz.underlying32
 a24:=Tryz.isAgg32
 z24:=Tryz.sizeOf32
 v24:=Tryz.zeroValue32
 i9:=info_of (by kernel_rfl)
 k0:=by decide }
theorem q232:tI Tryz.prog 3=some ⟨1,8,false,some [.dat (.int .i64 0)]⟩:=by kernel_rfl
def insV (f:FuncId) (args:List AVal) (os:List TObj):Option (AVal×List TObj):=match f with
 |164=>insK 17 152 args os
 |165=>insF 24 args os
 |231=>insK 3 40 args os
 |232=>insK 1 8 args os
 |_=>none
theorem insV_ok:zae7 Tryz.prog insV:=by
 intro f args os v os' h;unfold insV at h;split at h
 ·exact .inl ⟨by decide,by kernel_rfl,insK_ok i164 q164 rfl ⟨_,rfl,rfl⟩ h⟩
 ·exact .inl ⟨by decide,by kernel_rfl,insF_ok i165 q165 rfl ⟨_,rfl,rfl⟩ h⟩
 ·exact .inl ⟨by decide,by kernel_rfl,insK_ok i231 q231 rfl ⟨_,rfl,rfl⟩ h⟩
 ·exact .inl ⟨by decide,by kernel_rfl,insK_ok i232 q232 rfl ⟨_,rfl,rfl⟩ h⟩
 ·cases h
end Go.Am

namespace Go.Am.E
open Go.Proofs
noncomputable def tfE:FuncId→Option AFun
 |7=>some fn7
 |9=>some fn9
 |17=>some fn17
 |21=>some fn21
 |24=>some fn24
 |25=>some fn25
 |27=>some fn27
 |29=>some fn29
 |32=>some fn32
 |34=>some fn34
 |35=>some fn35
 |36=>some fn36
 |37=>some fn37
 |41=>some fn41
 |42=>some fn42
 |43=>some fn43
 |44=>some fn44
 |45=>some fn45
 |59=>some fn59
 |60=>some fn60
 |61=>some fn61
 |62=>some fn62
 |63=>some fn63
 |64=>some fn64
 |65=>some fn65
 |66=>some fn66
 |67=>some fn67
 |68=>some fn68
 |69=>some fn69
 |70=>some fn70
 |71=>some fn71
 |72=>some fn72
 |73=>some fn73
 |74=>some fn74
 |75=>some fn75
 |76=>some fn76
 |77=>some fn77
 |78=>some fn78
 |79=>some fn79
 |80=>some fn80
 |81=>some fn81
 |90=>some fn90
 |91=>some fn91
 |92=>some fn92
 |93=>some fn93
 |94=>some fn94
 |95=>some fn95
 |96=>some fn96
 |97=>some fn97
 |98=>some fn98
 |99=>some fn99
 |100=>some fn100
 |101=>some fn101
 |102=>some fn102
 |103=>some fn103
 |104=>some fn104
 |105=>some fn105
 |124=>some fn124
 |125=>some fn125
 |126=>some fn126
 |127=>some fn127
 |128=>some fn128
 |129=>some fn129
 |130=>some fn130
 |131=>some fn131
 |132=>some fn132
 |133=>some fn133
 |134=>some fn134
 |135=>some fn135
 |136=>some fn136
 |137=>some fn137
 |138=>some fn138
 |139=>some fn139
 |140=>some fn140
 |141=>some fn141
 |142=>some fn142
 |143=>some fn143
 |144=>some fn144
 |155=>some fn155
 |156=>some fn156
 |157=>some fn157
 |158=>some fn158
 |159=>some fn159
 |160=>some fn160
 |161=>some fn161
 |162=>some fn162
 |163=>some fn163
 |166=>some fn166
 |167=>some fn167
 |168=>some fn168
 |169=>some fn169
 |170=>some fn170
 |171=>some fn171
 |172=>some fn172
 |173=>some fn173
 |174=>some { fn174 with split:=some 0 }
 |175=>some fn175
 |176=>some fn176
 |177=>some fn177
 |178=>some fn178
 |201=>some fn201
 |202=>some fn202
 |203=>some fn203
 |204=>some fn204
 |205=>some fn205
 |206=>some fn206
 |207=>some fn207
 |208=>some fn208
 |209=>some fn209
 |210=>some fn210
 |211=>some fn211
 |212=>some fn212
 |213=>some fn213
 |214=>some fn214
 |222=>some fn222
 |223=>some fn223
 |224=>some fn224
 |225=>some fn225
 |230=>some fn230
 |233=>some fn233
 |234=>some fn234
 |235=>some fn235
 |237=>some fn237
 |246=>some fn246
 |247=>some fn247
 |248=>some fn248
 |249=>some fn249
 |250=>some fn250
 |251=>some fn251
 |263=>some fn263
 |264=>some fn264
 |_=>none
noncomputable def lpE:Nat→Option ALoop
 |138=>some lp138
 |_=>none
noncomputable def lawE:Orc:=memoL [⟨11,[],.dat (.bool true)⟩] (fun f args os=>match insV f args os with
 |some r=>some r
 |none=>sortE 236 f args os)
noncomputable def tblE:Tab:={ fn:=tfE,lp:=lpE,law:=lawE }
noncomputable abbrev K:Orc:=callT tblE
end Go.Am.E

namespace Go.Am
variable [Glob]
def yK4 (j m:Nat) (e:AEx) (s:St):Option TObj→Option (AVal×List TObj)
 |some (.plain (.blk (.loop k .busy env)))=>retK [.t 0] false m ⟨[(0,.dat (.bool (stOf e==.ready)))],pT s.objs (0,j) (.plain (.blk (.loop k (stOf e) env)))⟩
 |_=>none
def yK3 (j m:Nat) (p:AEx×St):Option (AVal×List TObj):=yK4 j m p.1 p.2 (gT p.2.objs (0,j))
noncomputable def yK2 (K:Orc) (lp:ALoop) (j m:Nat) (s:St):Option TObj→Option (AVal×List TObj)
 |some (.plain (.blk (.loop k .ready env)))=>bnd (exec K lp.body ⟨s.env,pT s.objs (0,j) (.plain (.blk (.loop k .busy env)))⟩) (yK3 j m)
 |_=>none
noncomputable def yK1 (K:Orc) (lp:ALoop) (j m:Nat):AEx×St→Option (AVal×List TObj)
 |(.normal,s)=>yK2 K lp j m s (gT s.objs (0,j))
 |_=>none
@[simp] theorem yK1_n (K:Orc) (lp:ALoop) (j m:Nat) (env:Env) (objs:zsa7):yK1 K lp j m (.normal,⟨env,objs⟩)=yK2 K lp j m ⟨env,objs⟩ (gT objs (0,j)):=rfl
@[simp] theorem yK2_s (K:Orc) (lp:ALoop) (j m:Nat) (k:Nat) (e env:Env) (objs:zsa7):yK2 K lp j m ⟨e,objs⟩ (some (.plain (.blk (.loop k .ready env))))=bnd (exec K lp.body ⟨e,pT objs (0,j) (.plain (.blk (.loop k .busy env)))⟩) (yK3 j m):=rfl
@[simp] theorem yK3_s (j m:Nat) (x:AEx) (env:Env) (objs:zsa7):yK3 j m (x,⟨env,objs⟩)=yK4 j m x ⟨env,objs⟩ (gT objs (0,j)):=rfl
@[simp] theorem yK4_s (j m k:Nat) (x:AEx) (e env:Env) (objs:zsa7):yK4 j m x ⟨e,objs⟩ (some (.plain (.blk (.loop k .busy env))))=retK [.t 0] false m ⟨[(0,.dat (.bool (stOf x==.ready)))],pT objs (0,j) (.plain (.blk (.loop k (stOf x) env)))⟩:=rfl
@[simp] theorem stOf_n:stOf .normal=.ready:=rfl
@[simp] theorem stOf_r:stOf .ret=.done .ret:=rfl
@[simp] theorem stOf_e (k:Nat):stOf (.exit k)=.done (.exit k):=rfl
@[simp] theorem rdy (x:AEx):(LSt.done x==LSt.ready)=false:=rfl
@[simp] theorem rdy':(LSt.ready==LSt.ready)=true:=rfl
attribute [congr] exec_congr
theorem yield_ev {tbl:Tab} {k j:Nat} {env:Env} {lp:ALoop} {args:List AVal} {os:List TObj} {r:AVal×List TObj} (hl:args.getLast?=some (.bref true ((0,j),0,0))) (ho:os[j]?=some (.plain (.blk (.loop k .ready env))))
  (hk:tbl.lp k=some lp) (hn:args.length=lp.ps.length+1) (h:Ev (bnd (exec (callT tbl) lp.assign ⟨lp.ps.zip args++env,(enter [] os).objs⟩) (yK1 (callT tbl) lp j os.length)) (·=r)):callT tbl YID args os=some r:=by
 apply callT_yield;rw[←h.eq];simp only[yieldE,yieldG,hl,ho,hk,hn,if_true,bnd];cases exec (callT tbl) lp.assign ⟨lp.ps.zip args++env,(enter [] os).objs⟩ with
 |none=>rfl
 |some q=>
  obtain⟨x,s1⟩:=q;cases x<;>simp only[yK1];generalize gT s1.objs (0,j)=o1;rcases o1 with _|o1
  ·rfl
  ·cases o1 with
   |plain o=>
    cases o with
    |blk b=>
     cases b with
     |loop k1 st1 env1=>
      cases st1<;>simp only[yK2];simp only[bnd];cases exec (callT tbl) lp.body ⟨s1.env,pT s1.objs (0,j) (.plain (.blk (.loop k1 .busy env1)))⟩ with
      |none=>rfl
      |some q2=>
       obtain⟨e,s2⟩:=q2;simp only[yK3];generalize gT s2.objs (0,j)=o2;rcases o2 with _|o2
       ·rfl
       ·cases o2 with
        |plain o=>
         cases o with
         |blk b=>
          cases b with
          |loop k2 st2 env2=>cases st2<;>simp only[yK4,retE_eq]
          |_=>rfl
         |_=>rfl
        |_=>rfl
     |_=>rfl
    |_=>rfl
   |_=>rfl
def rfK3 (env:Env) (objs:zsa7) (site:Nat):Option TObj→Option (AEx×St)
 |some (.plain (.blk (.loop _ st _)))=>bnd st.out fun x=>some (x,⟨env,pT objs (site+1,0) (.plain (.blk .dead))⟩)
 |_=>none
def rfK2 (env:Env) (objs:zsa7) (site:Nat) (p:AVal×List (RId×TObj)):Option (AEx×St):=rfK3 env (pTs objs p.2) site (gT (pTs objs p.2) (site+1,0))
noncomputable def rfK (K:Orc) (k site:Nat) (caps:List Nat) (env:Env) (objs:zsa7):AVal→Option (AEx×St)
 |.fn f vs=>if f=YID∨BIGF≤f then none else if (gT objs (site+1,0)).isSome then none else
   bnd (callE K (site+1) f ((.bref true ((site+1,0),0,0),true)::vs.map fun v=>(v,true)) false
     (gT (pT objs (site+1,0) (.plain (.blk (.loop k .ready (caps.map fun t=>(t,gE env t)))))))) (rfK2 env (pT objs (site+1,0) (.plain (.blk (.loop k .ready (caps.map fun t=>(t,gE env t)))))) site)
 |_=>none
@[simp] theorem rfK_f (K:Orc) (k site:Nat) (caps:List Nat) (env:Env) (objs:zsa7) (f:FuncId) (vs:List AVal):rfK K k site caps env objs (.fn f vs)=if f=YID∨BIGF≤f then none else if (gT objs (site+1,0)).isSome then none else
   bnd (callE K (site+1) f ((.bref true ((site+1,0),0,0),true)::vs.map fun v=>(v,true)) false
     (gT (pT objs (site+1,0) (.plain (.blk (.loop k .ready (caps.map fun t=>(t,gE env t)))))))) (rfK2 env (pT objs (site+1,0) (.plain (.blk (.loop k .ready (caps.map fun t=>(t,gE env t)))))) site):=rfl
@[simp] theorem rfK2_s (env:Env) (objs:zsa7) (site:Nat) (v:AVal) (us:List (RId×TObj)):rfK2 env objs site (v,us)=rfK3 env (pTs objs us) site (gT (pTs objs us) (site+1,0)):=rfl
@[simp] theorem rfK3_s (env:Env) (objs:zsa7) (site k:Nat) (st:LSt) (e:Env):rfK3 env objs site (some (.plain (.blk (.loop k st e))))=bnd st.out fun x=>some (x,⟨env,pT objs (site+1,0) (.plain (.blk .dead))⟩):=rfl
@[simp] theorem out_r:LSt.out .ready=some .normal:=rfl
@[simp] theorem out_d (e:AEx):LSt.out (.done e)=some e:=rfl
theorem exec_rfK (K:Orc) (x:AX) (k site:Nat) (caps:List Nat) (env:Env) (objs:zsa7):exec K (.rf x k site caps) ⟨env,objs⟩=rfK K k site caps env objs (evX (gE env) x):=by
 simp only[exec,rfE];generalize evX (gE env) x=v;cases v with
 |fn f vs=>
  simp only[rfK];by_cases h:f=YID∨BIGF≤f
  ·rw[if_pos h,if_pos h]
  ·rw[if_neg h,if_neg h];cases gT objs (site+1,0) with
   |some o=>simp
   |none=>
    simp only[Option.isSome_none,Bool.false_eq_true,if_false,bnd];generalize callE K (site+1) f _ false _=q;cases q with
    |none=>rfl
    |some q=>
     obtain⟨v,us⟩:=q;simp only[rfK2];generalize gT (pTs _ us) (site+1,0)=o;cases o with
     |none=>rfl
     |some o=>
      cases o with
      |plain o=>
       cases o with
       |blk b=>
        cases b with
        |loop k st e=>cases st<;>rfl
        |_=>rfl
       |_=>rfl
      |_=>rfl
 |_=>rfl
attribute [simp] exec_rfK
@[simp] theorem splice_z {α:Type} (a:α) (l:List α) (v:α):splice (a::l) 0 [v]=v::l:=rfl
@[simp] theorem splice_n {α:Type} (a:α) (l v:List α) (n:Nat):splice (a::l) (n+1) v=a::splice l n v:=by
 have e:n+1+v.length=(n+v.length)+1:=by omega
 simp only[splice,e,List.take_succ_cons,List.drop_succ_cons,List.cons_append]
theorem zma7 {α:Type} (l v:List α) (h:v.length=l.length):splice l 0 v=v:=by
 simp only[splice,List.take_zero,List.nil_append,Nat.zero_add,h,List.drop_length,List.append_nil]
def scan {α β:Type} (f:Nat→α→Option β):List α→Nat→Option β
 |[],_=>none
 |x::r,i=>match f i x with
  |some b=>some b
  |none=>scan f r (i+1)
theorem scan_drop {α β:Type} {f:Nat→α→Option β} {l:List α} {i:Nat} {x:α} (h:l[i]?=some x):scan f (l.drop i) i=match f i x with
  |some b=>some b
  |none=>scan f (l.drop (i+1)) (i+1):=by rw[zwb7 h];rfl
def oQ {β:Type} (E:AEx×St→Prop) (P:β→AEx×St→Prop):Option β→AEx×St→Prop
 |none=>E
 |some b=>P b
theorem zzb7 {α β:Type} {K:Orc} {c:AC} {live drop:List Nat} (l:List α) (f:Nat→α→Option β) (hl:l.length<100000000000000) (I:Nat→St) (E:AEx×St→Prop) (P:β→AEx×St→Prop)
  (h:∀(i:Nat) x s,l[i]?=some x→(∀h:i<l.length,l[i]=x)→(i:Int)<l.length→Ix i→hd live drop s=some (I i)→Ev (exec K c s) (oQ (fun q=>q.1=.normal∧hd live drop q.2=some (I (i+1))) (fun b q=>q.1≠.normal∧P b q) (f i x)))
  (he:∀s,hd live drop s=some (I l.length)→Ev (exec K c s) (fun q=>q.1≠.normal∧E q)) (s:St) (hs:hd live drop s=some (I 0)):Ev (zga7 (exec K c) s) (oQ E P (scan f l 0)):=by
 refine zeb7 (live:=live) (drop:=drop) l hl I (fun i=>oQ E P (scan f (l.drop i) i)) (fun i x s h1 h2 h3 h4 hs=>?_) (fun s hs=>?_) s hs
 ·have:=h i x s h1 h2 h3 h4 hs;have h5:=scan_drop (f:=f) h1;refine this.mono ?_;rintro⟨e,s'⟩ hq;cases hf:f i x with
  |none=>
   rw[hf]at hq h5;obtain⟨rfl,hq⟩:=hq;exact⟨hq,fun r h=>by show oQ E P _ _;rw[h5];exact h⟩
  |some b=>
   rw[hf]at hq h5;obtain⟨hn,hq⟩:=hq;cases e
   ·exact absurd rfl hn
   ·show oQ E P _ _
    rw[h5];exact hq
   ·show oQ E P _ _
    rw[h5];exact hq
 ·refine (he s hs).mono ?_;rintro⟨e,s'⟩ ⟨hn,hq⟩;have e0:l.drop l.length=[]:=List.drop_of_length_le (Nat.le_refl _);cases e
  ·exact absurd rfl hn
  ·show oQ E P _ _
   rw[e0];exact hq
  ·show oQ E P _ _
   rw[e0];exact hq
@[simp] theorem oQ_n {β:Type} (E:AEx×St→Prop) (P:β→AEx×St→Prop) (q:AEx×St):oQ E P none q=E q:=rfl
@[simp] theorem oQ_s {β:Type} (E:AEx×St→Prop) (P:β→AEx×St→Prop) (b:β) (q:AEx×St):oQ E P (some b) q=P b q:=rfl
end Go.Am

set_option maxRecDepth 10000
set_option maxHeartbeats 4000000
namespace Go.Am.E
open Go.Proofs Go.Ex Go.Rc
attribute [-simp] splice
attribute [local simp] zma7 MsD
theorem run78 (op:Int):K 78 [.dat (N op)] []=some (.dat (.bool (acc op)),[]):=ce rfl (by
 unfold acc;by_cases h1:8≤op
 ·by_cases h2:op≤12
  ·simp[h1,h2]
  ·by_cases h3:op=14<;>simp[h1,h2,h3]
 ·by_cases h3:op=14
  ·omega
  ·simp[h1,h3])
def pQ (v:Int) (o:Option Nat) (q:AEx×St):Prop:=match o with
 |none=>q.1=.exit 0∧∃os,hd [] [] q.2=some ⟨[],os⟩
 |some k=>q.1=.ret∧endK [.t 6] false 0 q=some (.dat (N (v+k+1)),[])
theorem run80 (s:Ra) (x:Nat) (l:List Msg) (hx:s.ms[x]?=some l) (hl:l.length<1000000000) (e:Int):K 80 [.dat (RaD s),.dat (N x),.dat (N e)] []=some (.dat (N (posM l e)),[]):=ce rfl (by
 obtain⟨x2,x3,x4⟩:=zca7 hx;unfold posM;by_cases he:e = -1
 ·subst he;simp
 ·rw[if_neg he];simp[he,hx,x2,x3,x4];simp only[zaa7]
  refine (zeb7 (live:=[2,15,16,17]) (drop:=[15]) l (by omega) (fun k=>⟨[(2,.dat (N e)),(15,.dat (.sl (l.map MsD))),(16,.dat (N l.length)),(17,.dat (N k))],[]⟩)
   (fun k=>pQ k (ixM e (l.drop k))) (fun i m st g1 g2 g3 ix hs=>?_) (fun st hs=>?_) _ (by simp)).mono ?_
  ·have hdr:=zwb7 g1;have hix:ixM e (l.drop i)=if m.ev=e then some 0 else (ixM e (l.drop (i+1))).map (·+1):=by rw[hdr];rfl
   obtain⟨ev,vl,vw⟩:=m;dsimp only at hix;by_cases h1:ev=e
   ·subst h1;rw[if_pos rfl]at hix;simp[hs,g1,g2,g3,ix,hix,pQ]
   ·rw[if_neg h1]at hix
    have hp:∀r,pQ ((i:Int)+1) (ixM e (l.drop (i+1))) r→pQ i (ixM e (l.drop i)) r:=by
     intro r;rw[hix];cases ixM e (l.drop (i+1)) with
     |none=>exact id
     |some k=>
      simp only[Option.map_some,pQ];rintro⟨r1,r2⟩;exact⟨r1,by rw[r2];congr 4;omega⟩
    simp[hs,g1,g2,g3,ix,h1];exact fun a b=>hp (a,b)
  ·simp[hs,ixM,pQ]
  ·rw[List.drop_zero];rintro⟨y,st⟩ hq;cases h:ixM e l with
   |none=>
    rw[h]at hq;obtain⟨rfl,os,hq⟩:=hq;dsimp only at hq;simp[hq]
   |some k=>
    rw[h]at hq;obtain⟨rfl,hq⟩:=hq;simp at hq;simp[hq])
theorem run75 (s:Ra) (v:List Int) (hl:∀l∈s.ms,l.length<1000000000) (hm:s.ms.length<1000000000) (hv:v.length<1000000000):K 75 [.dat (RaD s),.dat (Ns v)] []=some (.dat (.bool (gdV s v)),[]):=ce rfl (by
 unfold gdV;by_cases h0:v.length=s.ms.length;rotate_left
 ·have h0':¬(v.length:Int)=s.ms.length:=by omega
  simp[h0,h0']
 simp[h0];simp only[zaa7]
 refine (zeb7 (live:=[2,13,14,15]) (drop:=[]) v (by omega) (fun k=>⟨[(2,.ref ((3,0),0,0) 0),(13,.dat (Ns v)),(14,.dat (N v.length)),(15,.dat (N k))],[((3,0),.plain (.box ((RaDl s).map AVal.dat)))]⟩)
  (fun k=>bQ (fun q=>q.1=.exit 0∧∃os,hd [] [] q.2=some ⟨[],os⟩) (RQ 4) (alI (fun x e=>decide (0≤posM (gt2 s.ms x) e)) (v.drop k) k)) (fun i e st g1 g2 g3 ix hs=>?_) (fun st hs=>?_) _ (by simp[h0])).mono ?_
 ·have hdr:=alI_drop (f:=fun x e=>decide (0≤posM (gt2 s.ms x) e)) g1;have hi:i<s.ms.length:=by omega
  have hx:=List.getElem?_eq_getElem hi;have h80:=run80 s i _ hx (hl _ (List.getElem_mem hi)) e;rw[zwd7 hx]at hdr;generalize posM (s.ms[i]) e=w at *
  by_cases hw:0≤w
  ·have hw':¬w<0:=by omega
   simp[hw]at hdr;simp[hs,hdr,g1,g2,g3,ix,h80,hw']
  ·have hw':w<0:=by omega
   simp[hw]at hdr;simp[hs,hdr,g1,g2,g3,ix,h80,hw']
 ·simp[hs,alI]
 ·rw[List.drop_zero];generalize alI (fun x e=>decide (0≤posM (gt2 s.ms x) e)) v 0=B;rintro⟨y,st⟩ hq;cases B with
  |false=>
   obtain⟨rfl,hq⟩:=hq;simp[hq]
  |true=>
   obtain⟨rfl,os,hq⟩:=hq;dsimp only at hq;simp[hq])
end Go.Am.E

set_option maxRecDepth 10000
namespace Go.Am.E
open Go.Proofs Go.Ex Go.Rc
theorem run214 (b:Bool):K 214 [.dat (.bool b)] []=some (.dat (N (tr b)),[]):=ce rfl (by cases b<;>simp[tr])
theorem run233 (n:Int):K 233 [.dat (N n)] []=some (.dat (.bool (kn n)),[]):=ce rfl (by simp[kn];repeat' (split<;>simp[*]))
theorem run171 (n:Int):K 171 [.dat (N n)] []=some (.dat (.bool (vis n)),[]):=ce rfl (by simp[vis];repeat' (split<;>simp[*]))
theorem w32_cvt (n:Int):IntKind.wrap .i64 (IntKind.wrap .i32 (n % 4294967296))=w32 n:=by
 simp only[IntKind.wrap,IntKind.bits,IntKind.signed,w32];simp;split<;>split<;>omega
theorem run100 (n:Int):K 100 [.dat (N n)] []=some (.dat (N (w32 n)),[]):=ce rfl (by simp[←w32_cvt])
theorem run234 (x:In):K 234 [.dat (ID x)] []=some (.dat (.agg (x.vals.map N)),[]):=ce rfl (by simp[In.vals,IDl])
end Go.Am.E

set_option maxRecDepth 10000
set_option maxHeartbeats 1000000
namespace Go.Am.E
open Go.Proofs Go.Ex Go.Rc
def nm10:List Str:=[[97,100,100],[115,117,98],[109,117,108],[97,110,100],[111,114],[120,111,114],[101,113],[110,101],[108,116],[108,101]]
theorem glob2_eq:glob1=nm10.map Dat.str:=rfl
def fnm (f:Int):Str:=if 1≤f∧f≤10 then (nm10[(f-1).toNat]?).getD [] else []
theorem nm10_get {k:Nat} (h:k<10):∃c s,nm10[k]?=some (c::s):=by
 match k,h with
 |0,_|1,_|2,_|3,_|4,_|5,_|6,_|7,_|8,_|9,_=>exact⟨_,_,rfl⟩
theorem run235 (f:Int):K 235 [.dat (N f)] []=some (.dat (.str (fnm f)),[]):=ce rfl (by
 by_cases h:1≤f∧f≤10
 ·obtain⟨k,rfl,hk⟩:∃k:Nat,f=(k:Int)+1∧k<10:=⟨(f-1).toNat,by omega,by omega⟩;obtain⟨c,s,hs⟩:=nm10_get hk;have hw:IntKind.wrap .i64 (k:Int)=k:=wrap_i64 (by omega) (by omega);have h1:¬(k:Int)+1<1:=by omega
  have h2:¬(10:Int)<(k:Int)+1:=by omega
  have h3:(k:Int)+1≤10:=by omega
  have h4:k≤10:=by omega
  have h5:nm10.length=10:=rfl;have h6:(k:Int)<10:=by omega
  have h7:1≤10-k:=by omega
  have hs2:∀h:k<nm10.length,nm10[k]=c::s:=fun h=>(List.getElem?_eq_some_iff.1 hs).2
  simp[fnm,h1,h2,h3,h4,h5,h6,h7,hs2,hs,hk,hw,glob2_eq]
 ·simp[fnm,h];repeat' (split<;>simp[*]<;>try omega))
theorem usg {op:Int} (h:kn op=true):(glob0.drop ((op.toNat-1)*8+1)).take 7=(us op).map Dat.bool∧(us op).length=7∧op.toNat-1<22∧1≤op∧op-1<22:=by
 have:∀k,k<22→(glob0.drop (k*8+1)).take 7=(us (k+1)).map Dat.bool∧(us (k+1)).length=7:=by
  intro k hk
  match k,hk with
  |0,_|1,_|2,_|3,_|4,_|5,_|6,_|7,_|8,_|9,_|10,_|11,_|12,_|13,_|14,_|15,_|16,_|17,_|18,_|19,_|20,_|21,_=>exact⟨rfl,rfl⟩
  |n+22,h=>exact absurd h (by omega)
 have hl:glob0.length=176:=rfl;simp only[kn,decide_eq_true_eq]at h;have:=this (op.toNat-1) (by omega);rw[show ((op.toNat-1:Nat):Int)+1=op by omega]at this;exact⟨this.1,this.2,by omega,by omega,by omega⟩
def bx0 (x:In) (L:List Bool):zsa7:=[((2,0),.plain (.box (IDc x))),((4,0),.plain (.box (L.map fun b=>.dat (.bool b))))]
abbrev e240 (n:Nat) (v:List Int) (k:Nat):Env:=[(1,.ref ((2,0),0,0) 0),(3,.ref ((4,0),0,0) 0),(n,.dat (.agg (v.map N))),(n+1,.dat (N k))]
theorem fld_loop (x:In) (L:List Bool) (hL:L.length=7) (s:St) (hs:hd [1,3,19,20] [] s=some ⟨e240 19 x.vals 0,bx0 x L⟩):
  Ev (zga7 (exec K l173_0) s) fun p=>if fldE L x.vals=true then p.1=.ret∧endK [.t 2] false 0 p=some (.dat (N 9),[]) else p.1=.exit 0∧hd [1,3] [] p.2=some ⟨(e240 19 x.vals 0).take 2,bx0 x L⟩:=by
 have hv:x.vals.length=7:=rfl;refine ev_for 7 (fun k=>⟨e240 19 x.vals k,bx0 x L⟩) (fun k p=>if fldE (L.drop k) (x.vals.drop k)=true then p.1=.ret∧endK [.t 2] false 0 p=some (.dat (N 9),[]) else p.1=.exit 0∧hd [1,3] [] p.2=some ⟨(e240 19 x.vals 0).take 2,bx0 x L⟩) (fun k s hk hs=>?_) (fun s hs=>?_) 7 0 s rfl hs
 ·obtain⟨b,hb,hb2⟩:=zad7 L (i:=k) (by omega);obtain⟨v,hx,hx2⟩:=zad7 x.vals (i:=k) (by omega);have h1:(k:Int)<7:=by omega
  have ix:Ix k:=by unfold Ix;omega
  cases b<;>by_cases hv0:v=0<;>simp[hs,bx0,zwb7 hb,zwb7 hx,fldE,hb,hx,hb2,hx2,h1,ix,hk,hL,hv,hv0]
 ·have:L.drop 7=[]:=List.drop_of_length_le (by omega);simp[hs,bx0,this,fldE]
theorem isReg_eq (n:Int):isReg n=(!decide (n<0)&&!decide (8≤n)):=by
 unfold isReg;rw[Bool.eq_iff_iff];simp
abbrev e39 (x:In) (k:Nat):Env:=[(1,.ref ((2,0),0,0) 0),(3,.ref ((4,0),0,0) 0),(39,.agg [.dat (N x.a),.dat (N x.b),.dat (N x.c)]),(40,.dat (N k))]
theorem reg_loop (x:In) (L:List Bool) (hL:L.length=7) (s:St) (hs:hd [1,3,39,40] [] s=some ⟨e39 x 0,bx0 x L⟩):
  Ev (zga7 (exec K l173_1) s) fun p=>if ((L[0]?).getD false&&!isReg x.a||(L[1]?).getD false&&!isReg x.b||(L[2]?).getD false&&!isReg x.c)=true then p.1=.ret∧endK [.t 2] false 0 p=some (.dat (N 10),[]) else p.1=.exit 2∧hd [1,3] [] p.2=some ⟨(e240 19 x.vals 0).take 2,bx0 x L⟩:=by
 match L,hL with
 |[u0,u1,u2,u3,u4,u5,u6],_=>
 refine (ev_for 3 (fun k=>⟨e39 x k,bx0 x [u0,u1,u2,u3,u4,u5,u6]⟩) (fun k p=>if (([(u0,x.a),(u1,x.b),(u2,x.c)].drop k).any fun q=>q.1&&!isReg q.2)=true then p.1=.ret∧endK [.t 2] false 0 p=some (.dat (N 10),[]) else p.1=.exit 2∧hd [1,3] [] p.2=some ⟨(e240 19 x.vals 0).take 2,bx0 x [u0,u1,u2,u3,u4,u5,u6]⟩) (fun k s hk hs=>?_) (fun s hs=>?_) 3 0 s rfl hs).mono fun r h=>?_
 ·match k,hk with
  |0,_=>cases u0<;>by_cases c1:x.a<0<;>by_cases c2:8≤x.a<;>simp[hs,bx0,isReg_eq,c1,c2]
  |1,_=>cases u1<;>by_cases c1:x.b<0<;>by_cases c2:8≤x.b<;>simp[hs,bx0,isReg_eq,c1,c2]
  |2,_=>cases u2<;>by_cases c1:x.c<0<;>by_cases c2:8≤x.c<;>simp[hs,bx0,isReg_eq,c1,c2]
 ·simp[hs,bx0]
 ·simpa[Bool.or_assoc]using h
theorem fnm_nil (f:Int):fnm f=[]↔¬(1≤f∧f≤10):=by
 unfold fnm;by_cases h:1≤f∧f≤10
 ·obtain⟨c,s,hs⟩:=nm10_get (k:=(f-1).toNat) (by omega);rw[if_pos h,hs];simp[h]
 ·simp[h]
theorem run173 (x:In):K 173 [.dat (ID x)] []=some (.dat (N (chI x)),[]):=by
 refine ce rfl ?_;cases hk:kn x.op
 ·simp[run233,hk,chI]
 ·obtain⟨h1,h2,h3,h4,h5⟩:=usg hk;have hw:IntKind.wrap .i64 (x.op-1)=x.op-1:=wrap_i64 (by omega) (by omega);have hl:glob0.length=176:=rfl;have g1:(x.op.toNat-1)*8≤176:=by omega
  have g2:1≤176-(x.op.toNat-1)*8:=by omega
  have g3:7≤175-(x.op.toNat-1)*8:=by omega
  have hu0:∀k,uk x.op k=((us x.op)[k]?).getD false:=fun _=>rfl
  simp[run233,run234,hk,hw,hl,h1,h2,h4,h5,g1,g2,g3];simp only[zaa7];refine (fld_loop x (us x.op) h2 _ (by simp[run233,run234,hk,hw,hl,h1,h2,h4,h5,g1,g2,g3,bx0])).mono ?_;rintro⟨y,s⟩ hq;by_cases c1:fldE (us x.op) x.vals=true
  ·rw[if_pos c1]at hq;obtain⟨rfl,hq⟩:=hq;simp[hq,chI,hk,c1]
  ·rw[if_neg c1]at hq;obtain⟨rfl,hq⟩:=hq;simp[hq,bx0];simp only[zaa7];refine (reg_loop x (us x.op) h2 _ (by simp[hq,bx0])).mono ?_;rintro⟨y,s⟩ hq;simp only[←hu0]at hq
   have hch:chI x=if (uk x.op 0&&!isReg x.a||uk x.op 1&&!isReg x.b||uk x.op 2&&!isReg x.c)=true then 10 else if (uk x.op 6&&!decide (0≤x.r∧x.r≤2))=true then 13 else if (uk x.op 5&&!decide (1≤x.f∧x.f≤10))=true then 8 else if x.op=1∧¬isVal x.n then 2 else 0:=by
    unfold chI;rw[if_neg (by simp[hk]),if_neg c1]
   by_cases c2:(uk x.op 0&&!isReg x.a||uk x.op 1&&!isReg x.b||uk x.op 2&&!isReg x.c)=true
   ·rw[if_pos c2]at hq;obtain⟨rfl,hq⟩:=hq;simp[hq,hch,c2]
   ·rw[if_neg c2]at hq;obtain⟨rfl,hq⟩:=hq;rw[hch,if_neg c2]
    match hU:us x.op,h2 with
    |[u0,u1,u2,u3,u4,u5,u6],_=>
    have hu6:uk x.op 6=u6:=by simp[uk,hU]
    have hu5:uk x.op 5=u5:=by simp[uk,hU]
    rw[hU]at hq;have hn:=fnm_nil x.f;by_cases d1:fnm x.f=[]
    ·have d2:=hn.1 d1;simp[hq,bx0,hu6,hu5,run235,d1,d2]
     repeat' (split<;>simp[run235,d1,d2, *]<;>try omega)
    ·have d2:1≤x.f∧x.f≤10:=by
      by_cases h:1≤x.f∧x.f≤10
      ·exact h
      ·exact absurd (hn.2 h) d1
     simp[hq,bx0,hu6,hu5,run235,d1,d2]
     repeat' (split<;>simp[run235,d1,d2, *]<;>try omega)
end Go.Am.E

set_option maxRecDepth 10000
set_option maxHeartbeats 1000000
namespace Go.Am.E
open Go.Proofs Go.Ex Go.Rc
theorem run207 (n:Int):K 207 [.dat (N n)] []=some (.dat (.bool (okV n)),[]):=ce rfl (by
 by_cases h1 : -2147483648≤n<;>by_cases h2:n≤2147483647<;>simp[okV,h1,h2])
theorem opc (op:Int):op=1∨op=2∨op=3∨op=4∨op=5∨op=6∨op=7∨op=8∨op=9∨op=10∨op=11∨op=12∨op=13∨op=14∨op=15∨op=16∨op=17∨op=18∨op=19∨op=20∨op=21∨op=22∨(op≠1∧op≠2∧op≠3∧op≠4∧op≠5∧op≠6∧op≠7∧op≠8∧op≠9∧op≠10∧op≠11∧op≠12∧op≠13∧op≠14∧op≠15∧op≠16∧op≠17∧op≠18∧op≠19∧op≠20∧op≠21∧op≠22):=by omega
theorem run251 (p:Pg) (op:Int):K 251 [.dat (PD p),.dat (N op)] []=some (.dat (N (nob p op)),[]):=ce rfl (by
 rcases opc op with rfl|rfl|rfl|rfl|rfl|rfl|rfl|rfl|rfl|rfl|rfl|rfl|rfl|rfl|rfl|rfl|rfl|rfl|rfl|rfl|rfl|rfl|h
 all_goals first|(simp[nob];done)|simp[nob,h])
theorem run211 (p:Pg) (x:In) (n:Nat):K 211 [.dat (PD p),.dat (ID x),.dat (N n)] []=some (.dat (N (insE p n x)),[]):=ce rfl (by
 have h1:=run173 x;have h2:=run251 p x.op;generalize hc:chI x=c at h1;generalize hn:nob p x.op=o at h2;simp[h1,h2,insE,hc,hn]
 repeat' (split<;>first|omega|(simp[*];done)|(simp[*];omega)|(simp[*])|skip)
 all_goals omega)
end Go.Am.E

set_option maxRecDepth 10000
set_option maxHeartbeats 1000000
namespace Go.Am.E
open Go.Proofs Go.Ex Go.Rc
def ixo {α:Type} (p:α→Bool):List α→Nat→Int
 |[],_ => -1
 |a::r,k=>if p a=true then k else ixo p r (k+1)
theorem ixo_any {α:Type} (p:α→Bool):∀(l:List α) (k:Nat),(0≤ixo p l k)=(l.any p=true)
 |[],_=>by simp[ixo]
 |a::r,k=>by
  have ih:=ixo_any p r (k+1);simp only[ixo];split
  ·rename_i h;simp[h]
  ·rename_i h;simp[h,ih]
theorem ixo_no {α:Type} {p:α→Bool}:∀{l:List α} {k:Nat},l.any p=false→ixo p l k = -1
 |[],_,_=>rfl
 |a::r,k,h=>by
  simp only[List.any_cons,Bool.or_eq_false_iff]at h;simp[ixo,h.1,ixo_no h.2]
abbrev QX {α:Type} (p:α→Bool) (l:List α) (m:Nat) (i:Nat) (q:AEx×St):Prop:=
 if (l.drop i).any p=true then q.1=.ret∧endK [.t 4] false m q=some (.dat (N (ixo p (l.drop i) i)),[]) else q.1=.exit 0∧hd [] [] q.2=some ⟨[],[]⟩
theorem run264 (l:List Str) (x:Str) (hl:l.length<100000000000):K 264 [.dat (.sl (l.map S)),.dat (.str x)] []=some (.dat (N (ixo (fun y=>x==y) l 0)),[]):=by
 refine ce rfl ?_;simp;simp only[zaa7]
 refine (zeb7 (live:=[0,1,7,8]) (drop:=[]) l (by omega) (fun k=>⟨[(0,.dat (.sl (l.map S))),(1,.dat (.str x)),(7,.dat (N l.length)),(8,.dat (N k))],[]⟩) (QX (fun y=>x==y) l 0)
  (fun i y s h1 h2 h3 ix hs=>?_) (fun s hs=>?_) _ (by simp)).mono ?_
 ·by_cases c:x=y<;>simp[QX,hs,h1,h2,h3,ix,zwb7 h1,ixo,c]
 ·simp[QX,hs]
 ·rintro⟨y,s⟩ hq;simp only[QX,List.drop_zero]at hq;split at hq
  ·obtain⟨rfl,hq⟩:=hq;simp[hq]
  ·rename_i h;obtain⟨rfl,hq⟩:=hq;simp[hq,ixo_no (Bool.eq_false_iff.2 h)]
theorem run249 (l:List Str) (x:Str) (hl:l.length<100000000000):K 249 [.dat (.sl (l.map S)),.dat (.str x)] []=some (.dat (.bool (l.contains x)),[]):=
 ce rfl (by simp[run264 l x hl,ixo_any,List.elem_eq_contains,List.contains_eq_any_beq])
abbrev U8 (b:UInt8):Dat:=.int .u8 (b.toNat:Int)
theorem letr_eq (b:UInt8):letr b=((decide ((97:Int)≤b.toNat)&&decide ((b.toNat:Int)≤122))||(decide ((65:Int)≤b.toNat)&&decide ((b.toNat:Int)≤90))):=by
 unfold letr;rw[Bool.eq_iff_iff];simp only[decide_eq_true_eq,Bool.or_eq_true,Bool.and_eq_true];omega
theorem run263 (b:UInt8):K 263 [.dat (U8 b)] []=some (.dat (.bool (letr b)),[]):=ce rfl (by
 rw[letr_eq];by_cases c1:(97:Int)≤b.toNat<;>by_cases c2:(b.toNat:Int)≤122<;>by_cases c3:(65:Int)≤b.toNat<;>by_cases c4:(b.toNat:Int)≤90<;>simp[*])
@[simp] theorem len_a (a:Nat):((a:Int)+1<1)=False:=by simp;omega
@[simp] theorem len_b (a:Nat):(1≤(a:Int)+1)=True:=by simp;omega
theorem lett_eq (b:UInt8):lett b=(letr b||(decide ((b.toNat:Int)=95)||(!decide ((b.toNat:Int)<48)&&!decide ((57:Int)<b.toNat)))):=by
 unfold lett
 congr 1
 rw[Bool.eq_iff_iff];simp only[decide_eq_true_eq,Bool.or_eq_true,Bool.and_eq_true,Bool.not_eq_true',decide_eq_false_iff_not];omega
theorem nm_loop (L:Str) (hl:L.length<100000000000) (s:St) (hs:hd [0,19,20] [] s=some ⟨[(0,.dat (.str L)),(19,.dat (N L.length)),(20,.dat (N 0))],[]⟩):
  Ev (zga7 (exec K l248_0) s) fun q=>if L.all lett=true then q.1=.exit 0∧hd [] [] q.2=some ⟨[],[]⟩ else q.1=.ret∧endK [.t 2] false 0 q=some (.dat (.bool false),[]):=by
 refine zeb7 (live:=[0,19,20]) (drop:=[]) L (by omega) (fun k=>⟨[(0,.dat (.str L)),(19,.dat (N L.length)),(20,.dat (N k))],[]⟩)
  (fun i q=>if (L.drop i).all lett=true then q.1=.exit 0∧hd [] [] q.2=some ⟨[],[]⟩ else q.1=.ret∧endK [.t 2] false 0 q=some (.dat (.bool false),[]))
  (fun i y s g1 g2 g3 ix hs=>?_) (fun s hs=>?_) s hs
 ·cases d1:letr y
  ·rcases Classical.propComplete ((y.toNat:Int)=95) with d2|d2<;>by_cases d3:(y.toNat:Int)<48<;>by_cases d4:(57:Int)<y.toNat <;>
    (have hy:=lett_eq y
     simp only[d1,d2,d3,d4,decide_true,decide_false,Bool.not_true,Bool.not_false,Bool.and_self,Bool.and_true,Bool.and_false,Bool.or_true,Bool.or_false]at hy;simp[hs,g1,g2,g3,ix,zwb7 g1,run263,hy,d1,d2,d3,d4])
  ·have hy:lett y=true:=by simp[lett,d1]
   simp[hs,g1,g2,g3,ix,zwb7 g1,run263,hy,d1]
 ·simp[hs]
theorem run248 (s:Str):K 248 [.dat (.str s)] []=some (.dat (.bool (nmOk s)),[]):=by
 refine ce rfl ?_
 match s with
 |[]=>simp[nmOk]
 |c::r=>
  by_cases h1:(16:Int)<r.length+1
  ·have h1':¬r.length+1≤16:=by omega
   simp[nmOk,h1,h1']
  ·have h1':r.length+1≤16:=by omega
   cases h2:letr c
   ·simp[nmOk,h1,h1',h2,run263]
   ·simp[nmOk,h1,h1',h2,run263];simp only[zaa7];refine (nm_loop (c::r) (by simp only[List.length_cons];omega) _ (by simp)).mono ?_
    ·rintro⟨y,s⟩ hq;simp only[List.drop_zero]at hq;have e:(c::r).all lett=r.all lett:=by simp[lett,h2]
     rw[e]at hq;split at hq
     ·rename_i h;obtain⟨rfl,hq⟩:=hq;simp[hq,h]
     ·rename_i h;obtain⟨rfl,hq⟩:=hq;simp[hq,h]
end Go.Am.E

set_option maxRecDepth 10000
set_option maxHeartbeats 1000000
namespace Go.Am.E
open Go.Proofs Go.Ex Go.Rc
theorem zpe7 {α:Type} {l:List α} {i:Nat} {x:α} (h:l[i]?=some x):l.take (i+1)=l.take i++[x]:=by
 rw[List.take_add_one,h];rfl
theorem run204 (p:Pg) (hl:p.vs.length<1000000000):K 204 [.dat (PD p)] []=some (.dat (.sl ((p.vs.map (·.1)).map S)),[]):=by
 refine ce rfl ?_;simp;simp only[zaa7]
 refine (zeb7 (live:=[3,7,8,9]) (drop:=[3,7]) p.vs (by omega) (fun k=>⟨[(3,.rsl ((4,0),0,0) k 1 0 k),(7,.dat (.sl (p.vs.map VD))),(8,.dat (N p.vs.length)),(9,.dat (N k))],[((4,0),.plain (.arr 1 k false ((p.vs.take k).map fun v=>S v.1)))]⟩)
  (fun k q=>q.1=.exit 0∧hd [3] [] q.2=some ⟨[(3,.rsl ((4,0),0,0) p.vs.length 1 0 p.vs.length)],[((4,0),.plain (.arr 1 p.vs.length false (p.vs.map fun v=>S v.1)))]⟩)
  (fun i y s h1 h2 h3 ix hs=>?_) (fun s hs=>?_) _ (by simp)).mono ?_
 ·have hr:(i+1)*17≤1099511627776:=by omega
  have h4:i≤p.vs.length:=by omega
  obtain⟨a,b⟩:=y;have h5:=zpe7 (l:=p.vs.map fun v=>S v.1) (i:=i) (x:=S a) (by simp[h1]);simp[hs,h1,h2,h3,ix,hr,h4,VD,h5]
 ·simp[hs]
 ·rintro⟨y,s⟩ ⟨rfl,hq⟩;simp[hq,List.map_map,Function.comp_def]
theorem run206 (p:Pg) (hl:p.fs.length<1000000000):K 206 [.dat (PD p)] []=some (.dat (.sl ((p.fs.map (·.1)).map S)),[]):=by
 refine ce rfl ?_;simp;simp only[zaa7]
 refine (zeb7 (live:=[3,7,8,9]) (drop:=[3,7]) p.fs (by omega) (fun k=>⟨[(3,.rsl ((4,0),0,0) k 1 0 k),(7,.dat (.sl (p.fs.map FD))),(8,.dat (N p.fs.length)),(9,.dat (N k))],[((4,0),.plain (.arr 1 k false ((p.fs.take k).map fun v=>S v.1)))]⟩)
  (fun k q=>q.1=.exit 0∧hd [3] [] q.2=some ⟨[(3,.rsl ((4,0),0,0) p.fs.length 1 0 p.fs.length)],[((4,0),.plain (.arr 1 p.fs.length false (p.fs.map fun v=>S v.1)))]⟩)
  (fun i y s h1 h2 h3 ix hs=>?_) (fun s hs=>?_) _ (by simp)).mono ?_
 ·have hr:(i+1)*17≤1099511627776:=by omega
  have h4:i≤p.fs.length:=by omega
  obtain⟨a,b⟩:=y;have h5:=zpe7 (l:=p.fs.map fun v=>S v.1) (i:=i) (x:=S a) (by simp[h1]);simp[hs,h1,h2,h3,ix,hr,h4,FD,h5]
 ·simp[hs]
 ·rintro⟨y,s⟩ ⟨rfl,hq⟩;simp[hq,List.map_map,Function.comp_def]
theorem nms_drop {l:List Str} {i:Nat} {x:Str} (h:l[i]?=some x):nms (l.take i) (l.drop i)=if nmOk x=false then 6 else if x∈l.take i then 7 else nms (l.take (i+1)) (l.drop (i+1)):=by
 rw[zwb7 h,zpe7 h];rfl
theorem run205 (l:List Str) (hl:l.length<1000000000):∃n:Int,K 205 [.dat (.sl (l.map S))] []=some (.tup [.dat (N (nms [] l)),.dat (N n)],[]):=by
 have key:Ev (zed7 K fn205 [.dat (.sl (l.map S))] []) fun r=>∃n:Int,r=(.tup [.dat (N (nms [] l)),.dat (N n)],[]):=by
  simp;simp only[zaa7]
  refine (zeb7 (live:=[0,6,7,8]) (drop:=[]) l (by omega) (fun k=>⟨[(0,.dat (.sl (l.map S))),(6,.dat (.sl (l.map S))),(7,.dat (N l.length)),(8,.dat (N k))],[]⟩)
   (fun i q=>if nms (l.take i) (l.drop i)=0 then q.1=.exit 0∧hd [] [] q.2=some ⟨[],[]⟩ else q.1=.ret∧∃n:Int,endK [.t 2,.t 3] false 0 q=some (.tup [.dat (N (nms (l.take i) (l.drop i))),.dat (N n)],[]))
   (fun i y s h1 h2 h3 ix hs'=>?_) (fun s hs=>?_) _ (by simp)).mono ?_
  ·have h4:=run248 y;have h5:=run249 (l.take i) y (by simp;omega);rw[List.map_take]at h5;have h6:i≤l.length:=by omega
   have h9:=nms_drop h1;cases h7:nmOk y
   ·simp[hs',h1,h2,h3,ix,h4,h7,h9]
   ·by_cases h8:y∈l.take i
    ·simp[hs',h1,h2,h3,ix,h4,h5,h6,h7,h8,h9]
    ·simp[hs',h1,h2,h3,ix,h4,h5,h6,h7,h8,h9]
  ·simp[hs,nms]
  ·rintro⟨y,s⟩ hq;simp only[List.drop_zero,List.take_zero]at hq;split at hq
   ·rename_i h;obtain⟨rfl,hq⟩:=hq;simp[hq,h]
   ·rename_i h;obtain⟨rfl,n,hq⟩:=hq;simp[hq]
 obtain⟨r,h1,n,rfl⟩:=key;exact⟨n,ce (fn:=fn205) rfl ⟨_,h1,rfl⟩⟩
end Go.Am.E

set_option maxRecDepth 10000
set_option maxHeartbeats 4000000
namespace Go.Am.E
open Go.Proofs Go.Ex Go.Rc
theorem fst0_drop {α:Type} {f:α→Int} {l:List α} {i:Nat} {x:α} (h:l[i]?=some x):fst0 ((l.map f).drop i)=if f x=0 then fst0 ((l.map f).drop (i+1)) else f x:=by
 rw[zwb7 (l:=l.map f) (x:=f x) (by simp[h])];rfl
@[simp] theorem drop_map_len {α β:Type} (f:α→β) (l:List α):(l.map f).drop l.length=[]:=List.drop_of_length_le (by simp)
abbrev nonePl:Dat:=.agg [N (-1),N (-1)]
abbrev SL (l:List Str):Dat:=.sl (l.map S)
theorem names_loop (L:List (List Str)) (hL:L.length<1000) (hl:∀l∈L,l.length<1000000000) (p:Pg) (s:St)
  (hs:hd [1,3,16,17,18] [1,3,16] s=some ⟨[(1,.ref ((2,0),0,0) 0),(3,.ref ((4,0),0,0) 0),(16,.dat (.sl (L.map SL))),(17,.dat (N L.length)),(18,.dat (N 0))],[((2,0),.plain (.box ((PDl p).map AVal.dat))),((4,0),.plain (.box [.dat (N 0),.dat (N 0)]))]⟩):
  Ev (zga7 (exec K l136_0) s) fun q=>if fst0 (L.map (nms []))=0 then q.1=.exit 0∧hd [1,3] [] q.2=some ⟨[(1,.ref ((2,0),0,0) 0),(3,.ref ((4,0),0,0) 0)],[((2,0),.plain (.box ((PDl p).map AVal.dat))),((4,0),.plain (.box [.dat (N 0),.dat (N 0)]))]⟩ else q.1=.ret∧endK [.t 2,.cell 3 2 true] false 0 q=some (.tup [.dat (N (fst0 (L.map (nms [])))),.dat nonePl],[]):=by
 refine zeb7 (live:=[1,3,16,17,18]) (drop:=[1,3,16]) L (by omega) (fun k=>⟨[(1,.ref ((2,0),0,0) 0),(3,.ref ((4,0),0,0) 0),(16,.dat (.sl (L.map SL))),(17,.dat (N L.length)),(18,.dat (N k))],[((2,0),.plain (.box ((PDl p).map AVal.dat))),((4,0),.plain (.box [.dat (N 0),.dat (N 0)]))]⟩)
  (fun i q=>if fst0 ((L.map (nms [])).drop i)=0 then q.1=.exit 0∧hd [1,3] [] q.2=some ⟨[(1,.ref ((2,0),0,0) 0),(3,.ref ((4,0),0,0) 0)],[((2,0),.plain (.box ((PDl p).map AVal.dat))),((4,0),.plain (.box [.dat (N 0),.dat (N 0)]))]⟩ else q.1=.ret∧endK [.t 2,.cell 3 2 true] false 0 q=some (.tup [.dat (N (fst0 ((L.map (nms [])).drop i))),.dat nonePl],[]))
  (fun i y s h1 h2 h3 ix hs=>?_) (fun s hs=>?_) s hs
 ·have h4:=fst0_drop (f:=nms []) h1;obtain⟨n,h5⟩:=run205 y (hl y (List.mem_of_getElem? h1));by_cases d:nms [] y=0
  ·rw[if_pos d]at h4;simp[hs,h1,h2,h3,ix,h4,h5,d]
  ·rw[if_neg d]at h4;simp[hs,h1,h2,h3,ix,h4,h5,d]
 ·simp[hs,fst0]
theorem fst0_app:∀(l r:List Int),fst0 (l++r)=if fst0 l=0 then fst0 r else fst0 l
 |[],r=>by simp[fst0]
 |e::l,r=>by
  have ih:=fst0_app l r;by_cases h:e=0
  ·have e1:fst0 (e::l)=fst0 l:=if_pos h;have e2:fst0 (e::l++r)=fst0 (l++r):=if_pos h;rw[e2,ih];simp[e1]
  ·have e1:fst0 (e::l)=e:=if_neg h;have e2:fst0 (e::l++r)=e:=if_neg h;rw[e2];simp[e1,h]
theorem nmsE_app (p:Pg):nmsE p=if fst0 ([p.vs.map (·.1),p.ms,p.cs].map (nms []))=0 then nms [] (p.fs.map (·.1)) else fst0 ([p.vs.map (·.1),p.ms,p.cs].map (nms [])):=by
 have:=fst0_app ([p.vs.map (·.1),p.ms,p.cs].map (nms [])) [nms [] (p.fs.map (·.1))];have e:fst0 [nms [] (p.fs.map (·.1))]=nms [] (p.fs.map (·.1)):=by simp only[fst0];split<;>simp[*]
 rw[e]at this;exact this
theorem run136 (p:Pg) (h1:p.vs.length<1000000000) (h2:p.ms.length<1000000000) (h3:p.cs.length<1000000000) (h4:p.fs.length<1000000000):
  ∃a b:Int,K 136 [.dat (PD p)] []=some (.tup [.dat (N (nmsE p)),.dat (.agg [N a,N b])],[]):=by
 obtain⟨n,h5⟩:=run205 (p.fs.map (·.1)) (by simpa using h4);have h6:=run204 p h1;have h7:=run206 p h4;by_cases d:fst0 ([p.vs.map (·.1),p.ms,p.cs].map (nms []))=0
 ·have e:nmsE p=nms [] (p.fs.map (·.1)):=by
   rw[nmsE_app,if_pos d]
  refine⟨n,-1,ce rfl ?_⟩;simp at h5 h6 h7;simp[h6];simp only[zaa7];refine (names_loop [p.vs.map (·.1),p.ms,p.cs] (by simp) (by simp[h1,h2,h3]) p _ (by simp[h6])).mono ?_;rintro⟨y,s⟩ hq;rw[if_pos d]at hq;obtain⟨rfl,hq⟩:=hq;simp[hq,h7,h5,e]
 ·have e:nmsE p=fst0 ([p.vs.map (·.1),p.ms,p.cs].map (nms [])):=by
   rw[nmsE_app,if_neg d]
  refine⟨-1,-1,ce rfl ?_⟩;simp at h6;simp[h6];simp only[zaa7];refine (names_loop [p.vs.map (·.1),p.ms,p.cs] (by simp) (by simp[h1,h2,h3]) p _ (by simp[h6])).mono ?_;rintro⟨y,s⟩ hq;rw[if_neg d]at hq;obtain⟨rfl,hq⟩:=hq;simp only[←e]at hq;simp[hq]
end Go.Am.E

set_option maxRecDepth 10000
set_option maxHeartbeats 4000000
namespace Go.Am.E
open Go.Proofs Go.Ex Go.Rc
def lgF (f:Str×List In):Bool:=decide (64<f.2.length)
theorem run209 (f:Str×List In):K 209 [.dat (FD f)] []=some (.dat (.bool (lgF f)),[]):=ce rfl (by
 obtain⟨n,l⟩:=f;have e:((64:Int)<l.length)=(64<l.length):=by rw[eq_iff_iff];omega
 simp[FD,e,lgF])
def ixf {α:Type} (p:α→Bool) (i:Nat) (x:α):Option Nat:=if p x=true then some i else none
theorem scan_ixo {α:Type} (p:α→Bool):∀(l:List α) (k:Nat),ixo p l k=match scan (ixf p) l k with
  |some i=>(i:Int)
  |none => -1
 |[],_=>rfl
 |a::r,k=>by
  have ih:=scan_ixo p r (k+1);cases c:p a<;>simp[ixo,scan,ixf,c,ih]
theorem run208 (l:List (Str×List In)) (hl:l.length<100000000000):K 208 [.dat (.sl (l.map FD)),.fn 209 []] []=some (.dat (N (ixo lgF l 0)),[]):=by
 refine ce rfl ?_;rw[scan_ixo];simp;simp only[zaa7]
 refine (zzb7 (live:=[0,1,7,8]) (drop:=[]) l (ixf lgF) (by omega) (fun k=>⟨[(0,.dat (.sl (l.map FD))),(1,.fn 209 []),(7,.dat (N l.length)),(8,.dat (N k))],[]⟩)
  (fun q=>q.1=.exit 0∧hd [] [] q.2=some ⟨[],[]⟩) (fun i q=>q.1=.ret∧endK [.t 4] false 0 q=some (.dat (N i),[]))
  (fun i y s h1 h2 h3 ix hs=>?_) (fun s hs=>?_) _ (by simp)).mono ?_
 ·have h4:=run209 y;obtain⟨n,c⟩:=y;simp only[FD]at h4;cases c:lgF (n,c)<;>simp[hs,h1,h2,h3,ix,c,h4,YID,FD,ixf]
 ·simp[hs]
 ·rintro⟨y,s⟩ hq;cases c:scan (ixf lgF) l 0<;>rw[c]at hq<;>obtain⟨rfl,hq⟩:=hq<;>simp[hq]
abbrev bxs (l:List Dat):TObj:=.plain (.box (l.map AVal.dat))
abbrev L111 (st:LSt):TObj:=.plain (.blk (.loop 138 st [(1,.ref ((0,1),0,0) 0),(2,.ref ((0,2),0,0) 0),(3,.ref ((0,3),0,0) 0),(4,.ref ((0,4),0,0) 0)]))
abbrev O111 (p:Pg) (long:Int) (st:LSt) (e a b:Int):List TObj:=[L111 st,bxs (PDl p),bxs [N e],bxs [N a,N b],bxs [N long]]
theorem y111 (p:Pg) (long:Int) (f:Nat) (i:Int) (x:In) (F:Str×List In) (hF:p.fs[f]?=some F):
  K YID [.dat (.agg [N f,N i]),.dat (ID x),.bref true ((0,0),0,0)] (O111 p long .ready 0 0 0)=
   some (if (f:Int)=long then (.dat (.bool false),O111 p long (.done (.exit 0)) 0 0 0) else if insE p F.2.length x=0 then (.dat (.bool true),O111 p long .ready 0 0 0) else (.dat (.bool false),O111 p long (.done .ret) (insE p F.2.length x) f i)):=by
 refine yield_ev (k:=138) (j:=0) (lp:=lp138) rfl rfl rfl rfl ?_;have h1:=run211 p x F.2.length;obtain⟨h2,h3⟩:=List.getElem?_eq_some_iff.1 hF;have h4:(f:Int)<p.fs.length:=by omega
 by_cases c:(f:Int)=long
 ·simp[c]
 ·by_cases d:insE p F.2.length x=0
  ·simp[c,d,h1,h2,h3,h4,hF,FD]
  ·simp[c,d,h1,h2,h3,h4,hF,FD]
abbrev Stp:=LSt×Int×Int×Int
def g111 (p:Pg) (long:Int) (f n:Nat) (i:Nat) (x:In):Option Stp:=
 if (f:Int)=long then some (.done (.exit 0),0,0,0) else if insE p n x=0 then none else some (.done .ret,insE p n x,f,i)
def f111 (p:Pg) (long:Int) (f:Nat) (F:Str×List In):Option Stp:=scan (g111 p long f F.2.length) F.2 0
abbrev L239 (st:LSt):TObj:=.plain (.blk (.loop 138 st [(1,.ref ((0,2),0,0) 0),(2,.ref ((0,3),0,0) 0),(3,.ref ((0,4),0,0) 0),(4,.ref ((0,5),0,0) 0)]))
abbrev O239 (p:Pg) (long:Int) (q:Stp):List TObj:=[L239 q.1,bxs (PDl p),bxs (PDl p),bxs [N q.2.1],bxs [N q.2.2.1,N q.2.2.2],bxs [N long]]
abbrev S111 (p:Pg) (long:Int) (q:Stp):zsa7:=[((0,0),L239 q.1),((0,1),bxs (PDl p)),((0,2),bxs (PDl p)),((0,3),bxs [N q.2.1]),((0,4),bxs [N q.2.2.1,N q.2.2.2]),((0,5),bxs [N long])]
abbrev rdyS:Stp:=(.ready,0,0,0)
abbrev E239 (p:Pg) (f:Nat):Env:=[(0,.bref true ((0,0),0,0)),(8,.dat (.sl (p.fs.map FD))),(9,.dat (N p.fs.length)),(10,.dat (N f))]
theorem in239 (p:Pg) (long:Int) (f:Nat) (F:Str×List In) (hF:p.fs[f]?=some F) (hl:F.2.length<1000000000) (s:St)
  (hs:hd [0,3,8,9,10,16,17,18] [0,8,16] s=some ⟨[(0,.bref true ((0,0),0,0)),(3,.dat (N f)),(8,.dat (.sl (p.fs.map FD))),(9,.dat (N p.fs.length)),(10,.dat (N f)),(16,.dat (.sl (F.2.map ID))),(17,.dat (N F.2.length)),(18,.dat (N 0))],S111 p long rdyS⟩):
  Ev (zga7 (exec K l250_0) s) (oQ (fun q=>q.1=.exit 2∧hd [0,8,9,10] [] q.2=some ⟨E239 p f,S111 p long rdyS⟩) (fun b q=>q.1=.ret∧endK [] false 6 q=some (.tup [],O239 p long b)) (f111 p long f F)):=by
 refine zzb7 (live:=[0,3,8,9,10,16,17,18]) (drop:=[0,8,16]) F.2 (g111 p long f F.2.length) (by omega) (fun k=>⟨[(0,.bref true ((0,0),0,0)),(3,.dat (N f)),(8,.dat (.sl (p.fs.map FD))),(9,.dat (N p.fs.length)),(10,.dat (N f)),(16,.dat (.sl (F.2.map ID))),(17,.dat (N F.2.length)),(18,.dat (N k))],S111 p long rdyS⟩) _ _
  (fun i y s h1 h2 h3 ix hs=>?_) (fun s hs=>?_) s hs
 ·have hy:=y111 p long f i y F hF;simp only[YID,O111,L111,bxs,PDl,List.map_cons,List.map_nil]at hy;by_cases c:(f:Int)=long
  ·simp[c]at hy;simp[hs,h1,h2,h3,ix,YID,hy,c,g111]
  ·by_cases d:insE p F.2.length y=0
   ·simp[c,d]at hy;simp[hs,h1,h2,h3,ix,YID,hy,c,d,g111]
   ·simp[c,d]at hy;simp[hs,h1,h2,h3,ix,YID,hy,c,d,g111]
 ·simp[hs]
def stp111 (p:Pg) (long:Int):Option Stp:=scan (f111 p long) p.fs 0
theorem run250 (p:Pg) (long:Int) (hl:p.fs.length<1000000000) (hc:∀F∈p.fs,F.2.length<1000000000):
  K 250 [.bref true ((0,0),0,0),.ref ((0,1),0,0) 0] (O239 p long rdyS)=some (.tup [],O239 p long ((stp111 p long).getD rdyS)):=by
 refine ce rfl ?_;simp;simp only[zaa7]
 refine (zzb7 (live:=[0,8,9,10]) (drop:=[0,8]) p.fs (f111 p long) (by omega) (fun k=>⟨E239 p k,S111 p long rdyS⟩) (fun q=>q.1=.exit 0∧hd [] [] q.2=some ⟨[],S111 p long rdyS⟩)
  (fun b q=>q.1=.ret∧endK [] false 6 q=some (.tup [],O239 p long b))
  (fun i y s h1 h2 h3 ix hs=>?_) (fun s hs=>?_) _ (by simp)).mono ?_
 ·have h4:=in239 p long i y h1 (hc y (List.mem_of_getElem? h1));obtain⟨n,c⟩:=y;simp[hs,h1,h2,h3,ix,FD];simp only[zaa7];refine (h4 _ (by simp[hs,h1,h2,h3,ix,FD])).mono ?_;rintro⟨y,s⟩ hq;cases c:f111 p long i (n,c)<;>rw[c]at hq<;>obtain⟨rfl,hq⟩:=hq<;>simp[hq,ix]
 ·simp[hs]
 ·rintro⟨y,s⟩ hq;unfold stp111;cases c:scan (f111 p long) p.fs 0<;>rw[c]at hq<;>obtain⟨rfl,hq⟩:=hq
  ·obtain⟨env,objs⟩:=s;simp only[hd_eq,restrict_nil,dropE_nil,Option.some.injEq,St.mk.injEq,true_and]at hq;simp[hq]
  ·simp[hq]
theorem run210 (p:Pg):K 210 [.dat (PD p)] []=some (.fn 250 [.ref ((0,0),0,0) 0],[.plain (.box ((PDl p).map AVal.dat))]):=ce rfl (by simp)
theorem scan_g (p:Pg) {long:Int} (f n:Nat) (hne:(f:Int)≠long):∀(l:List In) (k:Nat),(scan (g111 p long f n) l k=none∧fst0 (l.map (insE p n))=0)∨∃e a b,scan (g111 p long f n) l k=some (.done .ret,e,a,b)∧fst0 (l.map (insE p n))=e∧e≠0
 |[],k=>.inl ⟨rfl,rfl⟩
 |x::r,k=>by
  have ih:=scan_g p f n hne r (k+1);by_cases c:insE p n x=0
  ·simp only[scan,g111,c,hne,if_true,if_false,List.map_cons,fst0];exact ih
  ·right;exact⟨insE p n x,f,k,by simp[scan,g111,c,hne],by simp[fst0,c],c⟩
theorem scan_f (p:Pg):∀(l:List (Str×List In)) (k:Nat) (L:Int),L=ixo lgF l k→(scan (f111 p L) l k=none∧L = -1∧fst0 (l.map (funE p))=0)∨(scan (f111 p L) l k=some (.done (.exit 0),0,0,0)∧0≤L∧fst0 (l.map (funE p))=4)∨∃e a b,scan (f111 p L) l k=some (.done .ret,e,a,b)∧fst0 (l.map (funE p))=e∧e≠0
 |[],k,L,h=>.inl ⟨rfl,h,rfl⟩
 |F::r,k,L,h=>by
  cases c:lgF F
  ·have h':L=ixo lgF r (k+1):=by rw[h];simp[ixo,c]
   have hk:∀(r:List (Str×List In)) (k:Nat),ixo lgF r k = -1∨(k:Int)≤ixo lgF r k:=by
    intro r
    induction r with
    |nil=>intro k;exact .inl rfl
    |cons a r ih=>
     intro k;simp only[ixo];split
     ·exact .inr (Int.le_refl _)
     ·rcases ih (k+1) with h|h
      ·exact .inl h
      ·right;omega
   have hne:(k:Int)≠L:=by rcases hk r (k+1) with h1|h1<;>rw[h']<;>omega
   have c':¬64<F.2.length:=by simpa[lgF]using c
   have e1:funE p F=fst0 (F.2.map (insE p F.2.length)):=if_neg c';rcases scan_g p k F.2.length hne F.2 0 with⟨h1,h2⟩|⟨e,a,b,h1,h2,h3⟩
   ·simp only[scan,f111,h1,List.map_cons,fst0,e1,h2,if_true];exact scan_f p r (k+1) L h'
   ·refine .inr (.inr ⟨e,a,b,by simp[scan,f111,h1],by simp[fst0,e1,h2,h3],h3⟩)
  ·have h':L=k:=by rw[h];simp[ixo,c]
   have c':64<F.2.length:=by simpa[lgF]using c
   right;left;obtain⟨n,l⟩:=F;cases l with
   |nil=>simp at c'
   |cons x l=>exact⟨by simp[scan,f111,g111,h'],by omega,by simp only[List.map_cons,fst0,funE,c',if_true];rfl⟩
theorem run138 (p:Pg) (hl:p.fs.length<1000000000) (hc:∀F∈p.fs,F.2.length<1000000000):∃a b:Int,K 138 [.dat (PD p)] []=some (.tup [.dat (N (codE p)),.dat (.agg [N a,N b])],[]):=by
 have h1:=run208 p.fs (by omega);have h2:=run210 p;have h3:=run250 p (ixo lgF p.fs 0) hl hc;simp only[O239,L239,bxs,PDl,List.map_cons,List.map_nil]at h3;unfold codE;rcases scan_f p p.fs 0 _ rfl with⟨c1,c2,c3⟩|⟨c1,c2,c3⟩|⟨e,a,b,c1,c2,c3⟩<;>unfold stp111 at h3<;>rw[c1]at h3
 ·refine⟨-1,-1,ce rfl ?_⟩;simp only[c2]at h1 h3;simp[h1,h2,h3,YID,c3]
 ·refine⟨ixo lgF p.fs 0,-1,ce rfl ?_⟩;simp[h1,h2,h3,YID,c2,c3]
 ·refine⟨a,b,ce rfl ?_⟩;simp[h1,h2,h3,YID,c2]
end Go.Am.E
