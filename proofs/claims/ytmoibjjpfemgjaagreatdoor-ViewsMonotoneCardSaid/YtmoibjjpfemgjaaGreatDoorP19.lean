/- Parts of the proofs of the statement, joined and made short: VIns ETab EY V1 EW1 EW2 EW5 EW3 EW4 EW7 EW13 EW6 EW14 V2 EW15 EW16 V3 EW17 EW18. -/
import Derived.Test.YtmoibjjpfemgjaaGreatDoorP18
import Derived.Test.YtmoibjjpfemgjaaGreatDoorP11
import Derived.Test.YtmoibjjpfemgjaaGreatDoorP14
import Derived.Test.YtmoibjjpfemgjaaGreatDoorP15
import Derived.Test.YtmoibjjpfemgjaaGreatDoorP16
import Derived.Test.YtmoibjjpfemgjaaGreatDoorP17
import Derived.Test.YtmoibjjpfemgjaaGreatDoorP12
import Derived.Test.YtmoibjjpfemgjaaGreatDoorProg
import Derived.KernelRfl
set_option linter.unusedVariables false
set_option linter.unusedSimpArgs false
set_option linter.unusedSectionVars false
set_option maxRecDepth 10000
namespace Go.Am
open Go.Proofs Go.Shelf
variable [Glob]
theorem info_of {P:Program} {t:TypeId} {k:Nat} (h:(match P.info? t with|some i=>(match i.zero with|some z=>decide (i.size=k)&&decide (z.cells.size=k)|none=>false)|none=>false)=true):∃i z,P.info? t=some i∧i.size=k∧i.zero=some z∧z.cells.size=k:=by
 split at h
 ·rename_i i hi;split at h
  ·rename_i z hz;simp only[Bool.and_eq_true,decide_eq_true_eq]at h;exact⟨i,z,hi,h.1,hz,h.2⟩
  ·cases h
 ·cases h
def r164:Ren:=⟨fun|22=>164|29=>226|30=>227|n=>n,fun|0=>0|3=>3|4=>4|24=>31|9=>81|n=>n,fun|n=>n⟩
theorem i164:InsL Tryz.prog r164 17:={
 mixed:=by kernel_rfl
 f22:=⟨Tryz.f164.name,Tryz.f164.origin,Tryz.f164.targs,Tryz.f164.file,Tryz.f164.endLine,Tryz.f164.litNo,Tryz.func164.trans (congrArg some (by kernel_rfl))⟩
 ov:=run_callFunc_extern Tryz.func226 (by kernel_rfl) (by kernel_rfl) (by kernel_rfl) (by kernel_rfl)
 t0:=Tryz.underlying0
 a0:=Tryz.isAgg0
 z0:=Tryz.sizeOf0
 v0:=Tryz.zeroValue0
 t3:=Tryz.underlying3
 a3:=Tryz.isAgg3
 z3:=Tryz.sizeOf3
 v3:=Tryz.zeroValue3
 t4:=Tryz.underlying4
 a4:=Tryz.isAgg4
 z4:=Tryz.sizeOf4
 v4:=Tryz.zeroValue4
 t24:=Tryz.underlying31
 a24:=Tryz.isAgg31
 z24:=Tryz.sizeOf31
 v24:=Tryz.zeroValue31
 i9:=info_of (by kernel_rfl)
 k0:=by decide }
theorem q164:tI Tryz.prog 81=some ⟨17,152,true,some [.dat (.int .i64 0),.dat (.int .i64 0),.dat (.int .i64 0),.dat (.int .i64 0),.dat (.int .i64 0),.dat (.int .i64 0),.dat (.int .i64 0),.dat (.int .i64 0),.dat (.int .i64 0),.dat (.int .i64 0),.dat (.int .i64 0),.dat (.int .i64 0),.dat (.int .i64 0),.dat (.int .i64 0),.dat (.int .i64 0),.dat (.int .i64 0),.nils]⟩:=by kernel_rfl
def r165:Ren:=⟨fun|22=>165|29=>228|30=>229|n=>n,fun|0=>0|3=>3|4=>4|24=>33|9=>32|n=>n,fun|n=>n⟩
theorem i165:InsL Tryz.prog r165 1:={
 mixed:=by kernel_rfl
 f22:=⟨Tryz.f165.name,Tryz.f165.origin,Tryz.f165.targs,Tryz.f165.file,Tryz.f165.endLine,Tryz.f165.litNo,Tryz.func165.trans (congrArg some (by kernel_rfl))⟩
 ov:=run_callFunc_extern Tryz.func228 (by kernel_rfl) (by kernel_rfl) (by kernel_rfl) (by kernel_rfl)
 t0:=Tryz.underlying0
 a0:=Tryz.isAgg0
 z0:=Tryz.sizeOf0
 v0:=Tryz.zeroValue0
 t3:=Tryz.underlying3
 a3:=Tryz.isAgg3
 z3:=Tryz.sizeOf3
 v3:=Tryz.zeroValue3
 t4:=Tryz.underlying4
 a4:=Tryz.isAgg4
 z4:=Tryz.sizeOf4
 v4:=Tryz.zeroValue4
 t24:=Tryz.underlying33
 a24:=Tryz.isAgg33
 z24:=Tryz.sizeOf33
 v24:=Tryz.zeroValue33
 i9:=info_of (by kernel_rfl)
 k0:=by decide }
theorem q165:tI Tryz.prog 32=some ⟨1,24,false,some [.nils]⟩:=by kernel_rfl
def r231:Ren:=⟨fun|22=>231|29=>255|30=>256|n=>n,fun|0=>0|3=>3|4=>4|24=>65|9=>68|n=>n,fun|n=>n⟩
theorem i231:InsL Tryz.prog r231 3:={
 mixed:=by kernel_rfl
 f22:=⟨Tryz.f231.name,Tryz.f231.origin,Tryz.f231.targs,Tryz.f231.file,Tryz.f231.endLine,Tryz.f231.litNo,Tryz.func231.trans (congrArg some (by kernel_rfl))⟩
 ov:=run_callFunc_extern Tryz.func255 (by kernel_rfl) (by kernel_rfl) (by kernel_rfl) (by kernel_rfl)
 t0:=Tryz.underlying0
 a0:=Tryz.isAgg0
 z0:=Tryz.sizeOf0
 v0:=Tryz.zeroValue0
 t3:=Tryz.underlying3
 a3:=Tryz.isAgg3
 z3:=Tryz.sizeOf3
 v3:=Tryz.zeroValue3
 t4:=Tryz.underlying4
 a4:=Tryz.isAgg4
 z4:=Tryz.sizeOf4
 v4:=Tryz.zeroValue4
 t24:=Tryz.underlying65
 a24:=Tryz.isAgg65
 z24:=Tryz.sizeOf65
 v24:=Tryz.zeroValue65
 i9:=info_of (by kernel_rfl)
 k0:=by decide }
theorem q231:tI Tryz.prog 68=some ⟨3,40,true,some [.dat (.int .i64 0),.dat (.int .i64 0),.nils]⟩:=by kernel_rfl
def r232:Ren:=⟨fun|22=>232|29=>257|30=>258|n=>n,fun|0=>0|3=>3|4=>4|24=>32|9=>3|n=>n,fun|n=>n⟩
theorem i232:InsL Tryz.prog r232 1:={
 mixed:=by kernel_rfl
 f22:=⟨Tryz.f232.name,Tryz.f232.origin,Tryz.f232.targs,Tryz.f232.file,Tryz.f232.endLine,Tryz.f232.litNo,Tryz.func232.trans (congrArg some (by kernel_rfl))⟩
 ov:=run_callFunc_extern Tryz.func257 (by kernel_rfl) (by kernel_rfl) (by kernel_rfl) (by kernel_rfl)
 t0:=Tryz.underlying0
 a0:=Tryz.isAgg0
 z0:=Tryz.sizeOf0
 v0:=Tryz.zeroValue0
 t3:=Tryz.underlying3
 a3:=Tryz.isAgg3
 z3:=Tryz.sizeOf3
 v3:=Tryz.zeroValue3
 t4:=Tryz.underlying4
 a4:=Tryz.isAgg4
 z4:=Tryz.sizeOf4
 v4:=Tryz.zeroValue4
 t24:=Tryz.underlying32
 a24:=Tryz.isAgg32
 z24:=Tryz.sizeOf32
 v24:=Tryz.zeroValue32
 i9:=info_of (by kernel_rfl)
 k0:=by decide }
theorem q232:tI Tryz.prog 3=some ⟨1,8,false,some [.dat (.int .i64 0)]⟩:=by kernel_rfl
def insV (f:FuncId) (args:List AVal) (os:List TObj):Option (AVal×List TObj):=match f with
 |164=>insK 17 152 args os
 |165=>insF 24 args os
 |231=>insK 3 40 args os
 |232=>insK 1 8 args os
 |_=>none
theorem insV_ok:zyd7 Tryz.prog insV:=by
 intro f args os v os' h;unfold insV at h;split at h
 ·exact .inl ⟨by decide,by kernel_rfl,insK_ok i164 q164 rfl ⟨_,rfl,rfl⟩ h⟩
 ·exact .inl ⟨by decide,by kernel_rfl,insF_ok i165 q165 rfl ⟨_,rfl,rfl⟩ h⟩
 ·exact .inl ⟨by decide,by kernel_rfl,insK_ok i231 q231 rfl ⟨_,rfl,rfl⟩ h⟩
 ·exact .inl ⟨by decide,by kernel_rfl,insK_ok i232 q232 rfl ⟨_,rfl,rfl⟩ h⟩
 ·cases h
end Go.Am

namespace Go.Am.E
open Go.Proofs
noncomputable def tfE:FuncId→Option AFun
 |5=>some fn5
 |9=>some fn9
 |17=>some fn17
 |21=>some fn21
 |22=>some fn22
 |23=>some fn23
 |24=>some fn24
 |25=>some fn25
 |26=>some fn26
 |29=>some fn29
 |32=>some fn32
 |34=>some fn34
 |35=>some fn35
 |36=>some fn36
 |37=>some fn37
 |41=>some fn41
 |42=>some fn42
 |43=>some fn43
 |44=>some fn44
 |45=>some fn45
 |59=>some fn59
 |60=>some fn60
 |61=>some fn61
 |62=>some fn62
 |63=>some fn63
 |64=>some fn64
 |65=>some fn65
 |66=>some fn66
 |67=>some fn67
 |68=>some fn68
 |69=>some fn69
 |70=>some fn70
 |71=>some fn71
 |72=>some fn72
 |73=>some fn73
 |74=>some fn74
 |75=>some fn75
 |76=>some fn76
 |77=>some fn77
 |78=>some fn78
 |79=>some fn79
 |80=>some fn80
 |81=>some fn81
 |90=>some fn90
 |91=>some fn91
 |92=>some fn92
 |93=>some fn93
 |94=>some fn94
 |95=>some fn95
 |96=>some fn96
 |97=>some fn97
 |98=>some fn98
 |99=>some fn99
 |100=>some fn100
 |101=>some fn101
 |102=>some fn102
 |103=>some fn103
 |104=>some fn104
 |105=>some fn105
 |124=>some fn124
 |125=>some fn125
 |126=>some fn126
 |127=>some fn127
 |128=>some fn128
 |129=>some fn129
 |130=>some fn130
 |131=>some fn131
 |132=>some fn132
 |133=>some fn133
 |134=>some fn134
 |135=>some fn135
 |136=>some fn136
 |137=>some fn137
 |138=>some fn138
 |139=>some fn139
 |140=>some fn140
 |141=>some fn141
 |142=>some fn142
 |143=>some fn143
 |144=>some fn144
 |155=>some fn155
 |156=>some fn156
 |157=>some fn157
 |158=>some fn158
 |159=>some fn159
 |160=>some fn160
 |161=>some fn161
 |162=>some fn162
 |163=>some fn163
 |166=>some fn166
 |167=>some fn167
 |168=>some fn168
 |169=>some fn169
 |170=>some fn170
 |171=>some fn171
 |172=>some fn172
 |173=>some fn173
 |174=>some { fn174 with split:=some 0 }
 |175=>some fn175
 |176=>some fn176
 |177=>some fn177
 |178=>some fn178
 |201=>some fn201
 |202=>some fn202
 |203=>some fn203
 |204=>some fn204
 |205=>some fn205
 |206=>some fn206
 |207=>some fn207
 |208=>some fn208
 |209=>some fn209
 |210=>some fn210
 |211=>some fn211
 |212=>some fn212
 |213=>some fn213
 |214=>some fn214
 |222=>some fn222
 |223=>some fn223
 |224=>some fn224
 |225=>some fn225
 |230=>some fn230
 |233=>some fn233
 |234=>some fn234
 |235=>some fn235
 |237=>some fn237
 |246=>some fn246
 |247=>some fn247
 |248=>some fn248
 |249=>some fn249
 |250=>some fn250
 |251=>some fn251
 |263=>some fn263
 |264=>some fn264
 |_=>none
noncomputable def lpE:Nat→Option ALoop
 |138=>some lp138
 |_=>none
noncomputable def lawE:Orc:=memoL [⟨11,[],.dat (.bool true)⟩] (fun f args os=>match insV f args os with
 |some r=>some r
 |none=>sortE 236 f args os)
noncomputable def tblE:Tab:={ fn:=tfE,lp:=lpE,law:=lawE }
noncomputable abbrev K:Orc:=callT tblE
end Go.Am.E

namespace Go.Am
variable [Glob]
def yK4 (j m:Nat) (e:AEx) (s:St):Option TObj→Option (AVal×List TObj)
 |some (.plain (.blk (.loop k .busy env)))=>retK [.t 0] false m ⟨[(0,.dat (.bool (stOf e==.ready)))],pT s.objs (0,j) (.plain (.blk (.loop k (stOf e) env)))⟩
 |_=>none
def yK3 (j m:Nat) (p:AEx×St):Option (AVal×List TObj):=yK4 j m p.1 p.2 (gT p.2.objs (0,j))
noncomputable def yK2 (K:Orc) (lp:ALoop) (j m:Nat) (s:St):Option TObj→Option (AVal×List TObj)
 |some (.plain (.blk (.loop k .ready env)))=>bnd (exec K lp.body ⟨s.env,pT s.objs (0,j) (.plain (.blk (.loop k .busy env)))⟩) (yK3 j m)
 |_=>none
noncomputable def yK1 (K:Orc) (lp:ALoop) (j m:Nat):AEx×St→Option (AVal×List TObj)
 |(.normal,s)=>yK2 K lp j m s (gT s.objs (0,j))
 |_=>none
@[simp] theorem yK1_n (K:Orc) (lp:ALoop) (j m:Nat) (env:Env) (objs:zsa7):yK1 K lp j m (.normal,⟨env,objs⟩)=yK2 K lp j m ⟨env,objs⟩ (gT objs (0,j)):=rfl
@[simp] theorem yK2_s (K:Orc) (lp:ALoop) (j m:Nat) (k:Nat) (e env:Env) (objs:zsa7):yK2 K lp j m ⟨e,objs⟩ (some (.plain (.blk (.loop k .ready env))))=bnd (exec K lp.body ⟨e,pT objs (0,j) (.plain (.blk (.loop k .busy env)))⟩) (yK3 j m):=rfl
@[simp] theorem yK3_s (j m:Nat) (x:AEx) (env:Env) (objs:zsa7):yK3 j m (x,⟨env,objs⟩)=yK4 j m x ⟨env,objs⟩ (gT objs (0,j)):=rfl
@[simp] theorem yK4_s (j m k:Nat) (x:AEx) (e env:Env) (objs:zsa7):yK4 j m x ⟨e,objs⟩ (some (.plain (.blk (.loop k .busy env))))=retK [.t 0] false m ⟨[(0,.dat (.bool (stOf x==.ready)))],pT objs (0,j) (.plain (.blk (.loop k (stOf x) env)))⟩:=rfl
@[simp] theorem stOf_n:stOf .normal=.ready:=rfl
@[simp] theorem stOf_r:stOf .ret=.done .ret:=rfl
@[simp] theorem stOf_e (k:Nat):stOf (.exit k)=.done (.exit k):=rfl
@[simp] theorem rdy (x:AEx):(LSt.done x==LSt.ready)=false:=rfl
@[simp] theorem rdy':(LSt.ready==LSt.ready)=true:=rfl
attribute [congr] exec_congr
theorem yield_ev {tbl:Tab} {k j:Nat} {env:Env} {lp:ALoop} {args:List AVal} {os:List TObj} {r:AVal×List TObj} (hl:args.getLast?=some (.bref true ((0,j),0,0))) (ho:os[j]?=some (.plain (.blk (.loop k .ready env))))
  (hk:tbl.lp k=some lp) (hn:args.length=lp.ps.length+1) (h:Ev (bnd (exec (callT tbl) lp.assign ⟨lp.ps.zip args++env,(enter [] os).objs⟩) (yK1 (callT tbl) lp j os.length)) (·=r)):callT tbl YID args os=some r:=by
 apply callT_yield;rw[←h.eq];simp only[yieldE,yieldG,hl,ho,hk,hn,if_true,bnd];cases exec (callT tbl) lp.assign ⟨lp.ps.zip args++env,(enter [] os).objs⟩ with
 |none=>rfl
 |some q=>
  obtain⟨x,s1⟩:=q;cases x<;>simp only[yK1];generalize gT s1.objs (0,j)=o1;rcases o1 with _|o1
  ·rfl
  ·cases o1 with
   |plain o=>
    cases o with
    |blk b=>
     cases b with
     |loop k1 st1 env1=>
      cases st1<;>simp only[yK2];simp only[bnd];cases exec (callT tbl) lp.body ⟨s1.env,pT s1.objs (0,j) (.plain (.blk (.loop k1 .busy env1)))⟩ with
      |none=>rfl
      |some q2=>
       obtain⟨e,s2⟩:=q2;simp only[yK3];generalize gT s2.objs (0,j)=o2;rcases o2 with _|o2
       ·rfl
       ·cases o2 with
        |plain o=>
         cases o with
         |blk b=>
          cases b with
          |loop k2 st2 env2=>cases st2<;>simp only[yK4,retE_eq]
          |_=>rfl
         |_=>rfl
        |_=>rfl
     |_=>rfl
    |_=>rfl
   |_=>rfl
def rfK3 (env:Env) (objs:zsa7) (site:Nat):Option TObj→Option (AEx×St)
 |some (.plain (.blk (.loop _ st _)))=>bnd st.out fun x=>some (x,⟨env,pT objs (site+1,0) (.plain (.blk .dead))⟩)
 |_=>none
def rfK2 (env:Env) (objs:zsa7) (site:Nat) (p:AVal×List (RId×TObj)):Option (AEx×St):=rfK3 env (pTs objs p.2) site (gT (pTs objs p.2) (site+1,0))
noncomputable def rfK (K:Orc) (k site:Nat) (caps:List Nat) (env:Env) (objs:zsa7):AVal→Option (AEx×St)
 |.fn f vs=>if f=YID∨BIGF≤f then none else if (gT objs (site+1,0)).isSome then none else
   bnd (callE K (site+1) f ((.bref true ((site+1,0),0,0),true)::vs.map fun v=>(v,true)) false
     (gT (pT objs (site+1,0) (.plain (.blk (.loop k .ready (caps.map fun t=>(t,gE env t)))))))) (rfK2 env (pT objs (site+1,0) (.plain (.blk (.loop k .ready (caps.map fun t=>(t,gE env t)))))) site)
 |_=>none
@[simp] theorem rfK_f (K:Orc) (k site:Nat) (caps:List Nat) (env:Env) (objs:zsa7) (f:FuncId) (vs:List AVal):rfK K k site caps env objs (.fn f vs)=if f=YID∨BIGF≤f then none else if (gT objs (site+1,0)).isSome then none else
   bnd (callE K (site+1) f ((.bref true ((site+1,0),0,0),true)::vs.map fun v=>(v,true)) false
     (gT (pT objs (site+1,0) (.plain (.blk (.loop k .ready (caps.map fun t=>(t,gE env t)))))))) (rfK2 env (pT objs (site+1,0) (.plain (.blk (.loop k .ready (caps.map fun t=>(t,gE env t)))))) site):=rfl
@[simp] theorem rfK2_s (env:Env) (objs:zsa7) (site:Nat) (v:AVal) (us:List (RId×TObj)):rfK2 env objs site (v,us)=rfK3 env (pTs objs us) site (gT (pTs objs us) (site+1,0)):=rfl
@[simp] theorem rfK3_s (env:Env) (objs:zsa7) (site k:Nat) (st:LSt) (e:Env):rfK3 env objs site (some (.plain (.blk (.loop k st e))))=bnd st.out fun x=>some (x,⟨env,pT objs (site+1,0) (.plain (.blk .dead))⟩):=rfl
@[simp] theorem out_r:LSt.out .ready=some .normal:=rfl
@[simp] theorem out_d (e:AEx):LSt.out (.done e)=some e:=rfl
theorem exec_rfK (K:Orc) (x:AX) (k site:Nat) (caps:List Nat) (env:Env) (objs:zsa7):exec K (.rf x k site caps) ⟨env,objs⟩=rfK K k site caps env objs (evX (gE env) x):=by
 simp only[exec,rfE];generalize evX (gE env) x=v;cases v with
 |fn f vs=>
  simp only[rfK];by_cases h:f=YID∨BIGF≤f
  ·rw[if_pos h,if_pos h]
  ·rw[if_neg h,if_neg h];cases gT objs (site+1,0) with
   |some o=>simp
   |none=>
    simp only[Option.isSome_none,Bool.false_eq_true,if_false,bnd];generalize callE K (site+1) f _ false _=q;cases q with
    |none=>rfl
    |some q=>
     obtain⟨v,us⟩:=q;simp only[rfK2];generalize gT (pTs _ us) (site+1,0)=o;cases o with
     |none=>rfl
     |some o=>
      cases o with
      |plain o=>
       cases o with
       |blk b=>
        cases b with
        |loop k st e=>cases st<;>rfl
        |_=>rfl
       |_=>rfl
      |_=>rfl
 |_=>rfl
attribute [simp] exec_rfK
@[simp] theorem splice_z {α:Type} (a:α) (l:List α) (v:α):splice (a::l) 0 [v]=v::l:=rfl
@[simp] theorem splice_n {α:Type} (a:α) (l v:List α) (n:Nat):splice (a::l) (n+1) v=a::splice l n v:=by
 have e:n+1+v.length=(n+v.length)+1:=by omega
 simp only[splice,e,List.take_succ_cons,List.drop_succ_cons,List.cons_append]
theorem zma7 {α:Type} (l v:List α) (h:v.length=l.length):splice l 0 v=v:=by
 simp only[splice,List.take_zero,List.nil_append,Nat.zero_add,h,List.drop_length,List.append_nil]
def scan {α β:Type} (f:Nat→α→Option β):List α→Nat→Option β
 |[],_=>none
 |x::r,i=>match f i x with
  |some b=>some b
  |none=>scan f r (i+1)
theorem scan_drop {α β:Type} {f:Nat→α→Option β} {l:List α} {i:Nat} {x:α} (h:l[i]?=some x):scan f (l.drop i) i=match f i x with
  |some b=>some b
  |none=>scan f (l.drop (i+1)) (i+1):=by rw[zxb7 h];rfl
def oQ {β:Type} (E:AEx×St→Prop) (P:β→AEx×St→Prop):Option β→AEx×St→Prop
 |none=>E
 |some b=>P b
theorem zvb7 {α β:Type} {K:Orc} {c:AC} {live drop:List Nat} (l:List α) (f:Nat→α→Option β) (hl:l.length<100000000000000) (I:Nat→St) (E:AEx×St→Prop) (P:β→AEx×St→Prop)
  (h:∀(i:Nat) x s,l[i]?=some x→(∀h:i<l.length,l[i]=x)→(i:Int)<l.length→Ix i→hd live drop s=some (I i)→Ev (exec K c s) (oQ (fun q=>q.1=.normal∧hd live drop q.2=some (I (i+1))) (fun b q=>q.1≠.normal∧P b q) (f i x)))
  (he:∀s,hd live drop s=some (I l.length)→Ev (exec K c s) (fun q=>q.1≠.normal∧E q)) (s:St) (hs:hd live drop s=some (I 0)):Ev (zga7 (exec K c) s) (oQ E P (scan f l 0)):=by
 refine zhb7 (live:=live) (drop:=drop) l hl I (fun i=>oQ E P (scan f (l.drop i) i)) (fun i x s h1 h2 h3 h4 hs=>?_) (fun s hs=>?_) s hs
 ·have:=h i x s h1 h2 h3 h4 hs;have h5:=scan_drop (f:=f) h1;refine this.mono ?_;rintro⟨e,s'⟩ hq;cases hf:f i x with
  |none=>
   rw[hf]at hq h5;obtain⟨rfl,hq⟩:=hq;exact⟨hq,fun r h=>by show oQ E P _ _;rw[h5];exact h⟩
  |some b=>
   rw[hf]at hq h5;obtain⟨hn,hq⟩:=hq;cases e
   ·exact absurd rfl hn
   ·show oQ E P _ _
    rw[h5];exact hq
   ·show oQ E P _ _
    rw[h5];exact hq
 ·refine (he s hs).mono ?_;rintro⟨e,s'⟩ ⟨hn,hq⟩;have e0:l.drop l.length=[]:=List.drop_of_length_le (Nat.le_refl _);cases e
  ·exact absurd rfl hn
  ·show oQ E P _ _
   rw[e0];exact hq
  ·show oQ E P _ _
   rw[e0];exact hq
@[simp] theorem oQ_n {β:Type} (E:AEx×St→Prop) (P:β→AEx×St→Prop) (q:AEx×St):oQ E P none q=E q:=rfl
@[simp] theorem oQ_s {β:Type} (E:AEx×St→Prop) (P:β→AEx×St→Prop) (b:β) (q:AEx×St):oQ E P (some b) q=P b q:=rfl
end Go.Am

set_option maxRecDepth 10000
set_option maxHeartbeats 4000000
namespace Go.Am.E
open Go.Proofs Go.Ex Go.Rc
attribute [-simp] splice
attribute [local simp] zma7 MsD
theorem run78 (op:Int):K 78 [.dat (N op)] []=some (.dat (.bool (acc op)),[]):=ce rfl (by
 unfold acc;by_cases h1:8≤op
 ·by_cases h2:op≤12
  ·simp[h1,h2]
  ·by_cases h3:op=14<;>simp[h1,h2,h3]
 ·by_cases h3:op=14
  ·omega
  ·simp[h1,h3])
def pQ (v:Int) (o:Option Nat) (q:AEx×St):Prop:=match o with
 |none=>q.1=.exit 0∧∃os,hd [] [] q.2=some ⟨[],os⟩
 |some k=>q.1=.ret∧endK [.t 6] false 0 q=some (.dat (N (v+k+1)),[])
theorem run80 (s:Ra) (x:Nat) (l:List Msg) (hx:s.ms[x]?=some l) (hl:l.length<1000000000) (e:Int):K 80 [.dat (RaD s),.dat (N x),.dat (N e)] []=some (.dat (N (posM l e)),[]):=ce rfl (by
 obtain⟨x2,x3,x4⟩:=zca7 hx;unfold posM;by_cases he:e = -1
 ·subst he;simp
 ·rw[if_neg he];simp[he,hx,x2,x3,x4];simp only[zaa7]
  refine (zhb7 (live:=[2,15,16,17]) (drop:=[15]) l (by omega) (fun k=>⟨[(2,.dat (N e)),(15,.dat (.sl (l.map MsD))),(16,.dat (N l.length)),(17,.dat (N k))],[]⟩)
   (fun k=>pQ k (ixM e (l.drop k))) (fun i m st g1 g2 g3 ix hs=>?_) (fun st hs=>?_) _ (by simp)).mono ?_
  ·have hdr:=zxb7 g1;have hix:ixM e (l.drop i)=if m.ev=e then some 0 else (ixM e (l.drop (i+1))).map (·+1):=by rw[hdr];rfl
   obtain⟨ev,vl,vw⟩:=m;dsimp only at hix;by_cases h1:ev=e
   ·subst h1;rw[if_pos rfl]at hix;simp[hs,g1,g2,g3,ix,hix,pQ]
   ·rw[if_neg h1]at hix
    have hp:∀r,pQ ((i:Int)+1) (ixM e (l.drop (i+1))) r→pQ i (ixM e (l.drop i)) r:=by
     intro r;rw[hix];cases ixM e (l.drop (i+1)) with
     |none=>exact id
     |some k=>
      simp only[Option.map_some,pQ];rintro⟨r1,r2⟩;exact⟨r1,by rw[r2];congr 4;omega⟩
    simp[hs,g1,g2,g3,ix,h1];exact fun a b=>hp (a,b)
  ·simp[hs,ixM,pQ]
  ·rw[List.drop_zero];rintro⟨y,st⟩ hq;cases h:ixM e l with
   |none=>
    rw[h]at hq;obtain⟨rfl,os,hq⟩:=hq;dsimp only at hq;simp[hq]
   |some k=>
    rw[h]at hq;obtain⟨rfl,hq⟩:=hq;simp at hq;simp[hq])
theorem run75 (s:Ra) (v:List Int) (hl:∀l∈s.ms,l.length<1000000000) (hm:s.ms.length<1000000000) (hv:v.length<1000000000):K 75 [.dat (RaD s),.dat (Ns v)] []=some (.dat (.bool (gdV s v)),[]):=ce rfl (by
 unfold gdV;by_cases h0:v.length=s.ms.length;rotate_left
 ·have h0':¬(v.length:Int)=s.ms.length:=by omega
  simp[h0,h0']
 simp[h0];simp only[zaa7]
 refine (zhb7 (live:=[2,13,14,15]) (drop:=[]) v (by omega) (fun k=>⟨[(2,.ref ((3,0),0,0) 0),(13,.dat (Ns v)),(14,.dat (N v.length)),(15,.dat (N k))],[((3,0),.plain (.box ((RaDl s).map AVal.dat)))]⟩)
  (fun k=>bQ (fun q=>q.1=.exit 0∧∃os,hd [] [] q.2=some ⟨[],os⟩) (RQ 4) (alI (fun x e=>decide (0≤posM (gt2 s.ms x) e)) (v.drop k) k)) (fun i e st g1 g2 g3 ix hs=>?_) (fun st hs=>?_) _ (by simp[h0])).mono ?_
 ·have hdr:=alI_drop (f:=fun x e=>decide (0≤posM (gt2 s.ms x) e)) g1;have hi:i<s.ms.length:=by omega
  have hx:=List.getElem?_eq_getElem hi;have h80:=run80 s i _ hx (hl _ (List.getElem_mem hi)) e;rw[zxd7 hx]at hdr;generalize posM (s.ms[i]) e=w at *
  by_cases hw:0≤w
  ·have hw':¬w<0:=by omega
   simp[hw]at hdr;simp[hs,hdr,g1,g2,g3,ix,h80,hw']
  ·have hw':w<0:=by omega
   simp[hw]at hdr;simp[hs,hdr,g1,g2,g3,ix,h80,hw']
 ·simp[hs,alI]
 ·rw[List.drop_zero];generalize alI (fun x e=>decide (0≤posM (gt2 s.ms x) e)) v 0=B;rintro⟨y,st⟩ hq;cases B with
  |false=>
   obtain⟨rfl,hq⟩:=hq;simp[hq]
  |true=>
   obtain⟨rfl,os,hq⟩:=hq;dsimp only at hq;simp[hq])
end Go.Am.E

set_option maxRecDepth 10000
namespace Go.Am.E
open Go.Proofs Go.Ex Go.Rc
theorem run214 (b:Bool):K 214 [.dat (.bool b)] []=some (.dat (N (tr b)),[]):=ce rfl (by cases b<;>simp[tr])
theorem run233 (n:Int):K 233 [.dat (N n)] []=some (.dat (.bool (kn n)),[]):=ce rfl (by simp[kn];repeat' (split<;>simp[*]))
theorem run171 (n:Int):K 171 [.dat (N n)] []=some (.dat (.bool (vis n)),[]):=ce rfl (by simp[vis];repeat' (split<;>simp[*]))
theorem w32_cvt (n:Int):IntKind.wrap .i64 (IntKind.wrap .i32 (n % 4294967296))=w32 n:=by
 simp only[IntKind.wrap,IntKind.bits,IntKind.signed,w32];simp;split<;>split<;>omega
theorem run100 (n:Int):K 100 [.dat (N n)] []=some (.dat (N (w32 n)),[]):=ce rfl (by simp[←w32_cvt])
theorem run234 (x:In):K 234 [.dat (ID x)] []=some (.dat (.agg (x.vals.map N)),[]):=ce rfl (by simp[In.vals,IDl])
end Go.Am.E

set_option maxRecDepth 10000
set_option maxHeartbeats 1000000
namespace Go.Am.E
open Go.Proofs Go.Ex Go.Rc
def nm10:List Str:=[[97,100,100],[115,117,98],[109,117,108],[97,110,100],[111,114],[120,111,114],[101,113],[110,101],[108,116],[108,101]]
theorem glob2_eq:glob1=nm10.map Dat.str:=rfl
def fnm (f:Int):Str:=if 1≤f∧f≤10 then (nm10[(f-1).toNat]?).getD [] else []
theorem nm10_get {k:Nat} (h:k<10):∃c s,nm10[k]?=some (c::s):=by
 match k,h with
 |0,_|1,_|2,_|3,_|4,_|5,_|6,_|7,_|8,_|9,_=>exact⟨_,_,rfl⟩
theorem run235 (f:Int):K 235 [.dat (N f)] []=some (.dat (.str (fnm f)),[]):=ce rfl (by
 by_cases h:1≤f∧f≤10
 ·obtain⟨k,rfl,hk⟩:∃k:Nat,f=(k:Int)+1∧k<10:=⟨(f-1).toNat,by omega,by omega⟩;obtain⟨c,s,hs⟩:=nm10_get hk;have hw:IntKind.wrap .i64 (k:Int)=k:=wrap_i64 (by omega) (by omega);have h1:¬(k:Int)+1<1:=by omega
  have h2:¬(10:Int)<(k:Int)+1:=by omega
  have h3:(k:Int)+1≤10:=by omega
  have h4:k≤10:=by omega
  have h5:nm10.length=10:=rfl;have h6:(k:Int)<10:=by omega
  have h7:1≤10-k:=by omega
  have hs2:∀h:k<nm10.length,nm10[k]=c::s:=fun h=>(List.getElem?_eq_some_iff.1 hs).2
  simp[fnm,h1,h2,h3,h4,h5,h6,h7,hs2,hs,hk,hw,glob2_eq]
 ·simp[fnm,h];repeat' (split<;>simp[*]<;>try omega))
theorem usg {op:Int} (h:kn op=true):(glob0.drop ((op.toNat-1)*8+1)).take 7=(us op).map Dat.bool∧(us op).length=7∧op.toNat-1<22∧1≤op∧op-1<22:=by
 have:∀k,k<22→(glob0.drop (k*8+1)).take 7=(us (k+1)).map Dat.bool∧(us (k+1)).length=7:=by
  intro k hk
  match k,hk with
  |0,_|1,_|2,_|3,_|4,_|5,_|6,_|7,_|8,_|9,_|10,_|11,_|12,_|13,_|14,_|15,_|16,_|17,_|18,_|19,_|20,_|21,_=>exact⟨rfl,rfl⟩
  |n+22,h=>exact absurd h (by omega)
 have hl:glob0.length=176:=rfl;simp only[kn,decide_eq_true_eq]at h;have:=this (op.toNat-1) (by omega);rw[show ((op.toNat-1:Nat):Int)+1=op by omega]at this;exact⟨this.1,this.2,by omega,by omega,by omega⟩
def bx0 (x:In) (L:List Bool):zsa7:=[((2,0),.plain (.box (IDc x))),((4,0),.plain (.box (L.map fun b=>.dat (.bool b))))]
abbrev e240 (n:Nat) (v:List Int) (k:Nat):Env:=[(1,.ref ((2,0),0,0) 0),(3,.ref ((4,0),0,0) 0),(n,.dat (.agg (v.map N))),(n+1,.dat (N k))]
theorem fld_loop (x:In) (L:List Bool) (hL:L.length=7) (s:St) (hs:hd [1,3,19,20] [] s=some ⟨e240 19 x.vals 0,bx0 x L⟩):
  Ev (zga7 (exec K l173_0) s) fun p=>if fldE L x.vals=true then p.1=.ret∧endK [.t 2] false 0 p=some (.dat (N 9),[]) else p.1=.exit 0∧hd [1,3] [] p.2=some ⟨(e240 19 x.vals 0).take 2,bx0 x L⟩:=by
 have hv:x.vals.length=7:=rfl;refine ev_for 7 (fun k=>⟨e240 19 x.vals k,bx0 x L⟩) (fun k p=>if fldE (L.drop k) (x.vals.drop k)=true then p.1=.ret∧endK [.t 2] false 0 p=some (.dat (N 9),[]) else p.1=.exit 0∧hd [1,3] [] p.2=some ⟨(e240 19 x.vals 0).take 2,bx0 x L⟩) (fun k s hk hs=>?_) (fun s hs=>?_) 7 0 s rfl hs
 ·obtain⟨b,hb,hb2⟩:=zad7 L (i:=k) (by omega);obtain⟨v,hx,hx2⟩:=zad7 x.vals (i:=k) (by omega);have h1:(k:Int)<7:=by omega
  have ix:Ix k:=by unfold Ix;omega
  cases b<;>by_cases hv0:v=0<;>simp[hs,bx0,zxb7 hb,zxb7 hx,fldE,hb,hx,hb2,hx2,h1,ix,hk,hL,hv,hv0]
 ·have:L.drop 7=[]:=List.drop_of_length_le (by omega);simp[hs,bx0,this,fldE]
theorem isReg_eq (n:Int):isReg n=(!decide (n<0)&&!decide (8≤n)):=by
 unfold isReg;rw[Bool.eq_iff_iff];simp
abbrev e39 (x:In) (k:Nat):Env:=[(1,.ref ((2,0),0,0) 0),(3,.ref ((4,0),0,0) 0),(39,.agg [.dat (N x.a),.dat (N x.b),.dat (N x.c)]),(40,.dat (N k))]
theorem reg_loop (x:In) (L:List Bool) (hL:L.length=7) (s:St) (hs:hd [1,3,39,40] [] s=some ⟨e39 x 0,bx0 x L⟩):
  Ev (zga7 (exec K l173_1) s) fun p=>if ((L[0]?).getD false&&!isReg x.a||(L[1]?).getD false&&!isReg x.b||(L[2]?).getD false&&!isReg x.c)=true then p.1=.ret∧endK [.t 2] false 0 p=some (.dat (N 10),[]) else p.1=.exit 2∧hd [1,3] [] p.2=some ⟨(e240 19 x.vals 0).take 2,bx0 x L⟩:=by
 match L,hL with
 |[u0,u1,u2,u3,u4,u5,u6],_=>
 refine (ev_for 3 (fun k=>⟨e39 x k,bx0 x [u0,u1,u2,u3,u4,u5,u6]⟩) (fun k p=>if (([(u0,x.a),(u1,x.b),(u2,x.c)].drop k).any fun q=>q.1&&!isReg q.2)=true then p.1=.ret∧endK [.t 2] false 0 p=some (.dat (N 10),[]) else p.1=.exit 2∧hd [1,3] [] p.2=some ⟨(e240 19 x.vals 0).take 2,bx0 x [u0,u1,u2,u3,u4,u5,u6]⟩) (fun k s hk hs=>?_) (fun s hs=>?_) 3 0 s rfl hs).mono fun r h=>?_
 ·match k,hk with
  |0,_=>cases u0<;>by_cases c1:x.a<0<;>by_cases c2:8≤x.a<;>simp[hs,bx0,isReg_eq,c1,c2]
  |1,_=>cases u1<;>by_cases c1:x.b<0<;>by_cases c2:8≤x.b<;>simp[hs,bx0,isReg_eq,c1,c2]
  |2,_=>cases u2<;>by_cases c1:x.c<0<;>by_cases c2:8≤x.c<;>simp[hs,bx0,isReg_eq,c1,c2]
 ·simp[hs,bx0]
 ·simpa[Bool.or_assoc]using h
theorem fnm_nil (f:Int):fnm f=[]↔¬(1≤f∧f≤10):=by
 unfold fnm;by_cases h:1≤f∧f≤10
 ·obtain⟨c,s,hs⟩:=nm10_get (k:=(f-1).toNat) (by omega);rw[if_pos h,hs];simp[h]
 ·simp[h]
theorem run173 (x:In):K 173 [.dat (ID x)] []=some (.dat (N (chI x)),[]):=by
 refine ce rfl ?_;cases hk:kn x.op
 ·simp[run233,hk,chI]
 ·obtain⟨h1,h2,h3,h4,h5⟩:=usg hk;have hw:IntKind.wrap .i64 (x.op-1)=x.op-1:=wrap_i64 (by omega) (by omega);have hl:glob0.length=176:=rfl;have g1:(x.op.toNat-1)*8≤176:=by omega
  have g2:1≤176-(x.op.toNat-1)*8:=by omega
  have g3:7≤175-(x.op.toNat-1)*8:=by omega
  have hu0:∀k,uk x.op k=((us x.op)[k]?).getD false:=fun _=>rfl
  simp[run233,run234,hk,hw,hl,h1,h2,h4,h5,g1,g2,g3];simp only[zaa7];refine (fld_loop x (us x.op) h2 _ (by simp[run233,run234,hk,hw,hl,h1,h2,h4,h5,g1,g2,g3,bx0])).mono ?_;rintro⟨y,s⟩ hq;by_cases c1:fldE (us x.op) x.vals=true
  ·rw[if_pos c1]at hq;obtain⟨rfl,hq⟩:=hq;simp[hq,chI,hk,c1]
  ·rw[if_neg c1]at hq;obtain⟨rfl,hq⟩:=hq;simp[hq,bx0];simp only[zaa7];refine (reg_loop x (us x.op) h2 _ (by simp[hq,bx0])).mono ?_;rintro⟨y,s⟩ hq;simp only[←hu0]at hq
   have hch:chI x=if (uk x.op 0&&!isReg x.a||uk x.op 1&&!isReg x.b||uk x.op 2&&!isReg x.c)=true then 10 else if (uk x.op 6&&!decide (0≤x.r∧x.r≤2))=true then 13 else if (uk x.op 5&&!decide (1≤x.f∧x.f≤10))=true then 8 else if x.op=1∧¬isVal x.n then 2 else 0:=by
    unfold chI;rw[if_neg (by simp[hk]),if_neg c1]
   by_cases c2:(uk x.op 0&&!isReg x.a||uk x.op 1&&!isReg x.b||uk x.op 2&&!isReg x.c)=true
   ·rw[if_pos c2]at hq;obtain⟨rfl,hq⟩:=hq;simp[hq,hch,c2]
   ·rw[if_neg c2]at hq;obtain⟨rfl,hq⟩:=hq;rw[hch,if_neg c2]
    match hU:us x.op,h2 with
    |[u0,u1,u2,u3,u4,u5,u6],_=>
    have hu6:uk x.op 6=u6:=by simp[uk,hU]
    have hu5:uk x.op 5=u5:=by simp[uk,hU]
    rw[hU]at hq;have hn:=fnm_nil x.f;by_cases d1:fnm x.f=[]
    ·have d2:=hn.1 d1;simp[hq,bx0,hu6,hu5,run235,d1,d2]
     repeat' (split<;>simp[run235,d1,d2, *]<;>try omega)
    ·have d2:1≤x.f∧x.f≤10:=by
      by_cases h:1≤x.f∧x.f≤10
      ·exact h
      ·exact absurd (hn.2 h) d1
     simp[hq,bx0,hu6,hu5,run235,d1,d2]
     repeat' (split<;>simp[run235,d1,d2, *]<;>try omega)
end Go.Am.E

set_option maxRecDepth 10000
set_option maxHeartbeats 1000000
namespace Go.Am.E
open Go.Proofs Go.Ex Go.Rc
theorem run207 (n:Int):K 207 [.dat (N n)] []=some (.dat (.bool (okV n)),[]):=ce rfl (by
 by_cases h1 : -2147483648≤n<;>by_cases h2:n≤2147483647<;>simp[okV,h1,h2])
theorem opc (op:Int):op=1∨op=2∨op=3∨op=4∨op=5∨op=6∨op=7∨op=8∨op=9∨op=10∨op=11∨op=12∨op=13∨op=14∨op=15∨op=16∨op=17∨op=18∨op=19∨op=20∨op=21∨op=22∨(op≠1∧op≠2∧op≠3∧op≠4∧op≠5∧op≠6∧op≠7∧op≠8∧op≠9∧op≠10∧op≠11∧op≠12∧op≠13∧op≠14∧op≠15∧op≠16∧op≠17∧op≠18∧op≠19∧op≠20∧op≠21∧op≠22):=by omega
theorem run251 (p:Pg) (op:Int):K 251 [.dat (PD p),.dat (N op)] []=some (.dat (N (nob p op)),[]):=ce rfl (by
 rcases opc op with rfl|rfl|rfl|rfl|rfl|rfl|rfl|rfl|rfl|rfl|rfl|rfl|rfl|rfl|rfl|rfl|rfl|rfl|rfl|rfl|rfl|rfl|h
 all_goals first|(simp[nob];done)|simp[nob,h])
theorem run211 (p:Pg) (x:In) (n:Nat):K 211 [.dat (PD p),.dat (ID x),.dat (N n)] []=some (.dat (N (insE p n x)),[]):=ce rfl (by
 have h1:=run173 x;have h2:=run251 p x.op;generalize hc:chI x=c at h1;generalize hn:nob p x.op=o at h2;simp[h1,h2,insE,hc,hn]
 repeat' (split<;>first|omega|(simp[*];done)|(simp[*];omega)|(simp[*])|skip)
 all_goals omega)
end Go.Am.E

set_option maxRecDepth 10000
set_option maxHeartbeats 1000000
namespace Go.Am.E
open Go.Proofs Go.Ex Go.Rc
def ixo {α:Type} (p:α→Bool):List α→Nat→Int
 |[],_ => -1
 |a::r,k=>if p a=true then k else ixo p r (k+1)
theorem ixo_any {α:Type} (p:α→Bool):∀(l:List α) (k:Nat),(0≤ixo p l k)=(l.any p=true)
 |[],_=>by simp[ixo]
 |a::r,k=>by
  have ih:=ixo_any p r (k+1);simp only[ixo];split
  ·rename_i h;simp[h]
  ·rename_i h;simp[h,ih]
theorem ixo_no {α:Type} {p:α→Bool}:∀{l:List α} {k:Nat},l.any p=false→ixo p l k = -1
 |[],_,_=>rfl
 |a::r,k,h=>by
  simp only[List.any_cons,Bool.or_eq_false_iff]at h;simp[ixo,h.1,ixo_no h.2]
abbrev QX {α:Type} (p:α→Bool) (l:List α) (m:Nat) (i:Nat) (q:AEx×St):Prop:=
 if (l.drop i).any p=true then q.1=.ret∧endK [.t 4] false m q=some (.dat (N (ixo p (l.drop i) i)),[]) else q.1=.exit 0∧hd [] [] q.2=some ⟨[],[]⟩
theorem run264 (l:List Str) (x:Str) (hl:l.length<100000000000):K 264 [.dat (.sl (l.map S)),.dat (.str x)] []=some (.dat (N (ixo (fun y=>x==y) l 0)),[]):=by
 refine ce rfl ?_;simp;simp only[zaa7]
 refine (zhb7 (live:=[0,1,7,8]) (drop:=[]) l (by omega) (fun k=>⟨[(0,.dat (.sl (l.map S))),(1,.dat (.str x)),(7,.dat (N l.length)),(8,.dat (N k))],[]⟩) (QX (fun y=>x==y) l 0)
  (fun i y s h1 h2 h3 ix hs=>?_) (fun s hs=>?_) _ (by simp)).mono ?_
 ·by_cases c:x=y<;>simp[QX,hs,h1,h2,h3,ix,zxb7 h1,ixo,c]
 ·simp[QX,hs]
 ·rintro⟨y,s⟩ hq;simp only[QX,List.drop_zero]at hq;split at hq
  ·obtain⟨rfl,hq⟩:=hq;simp[hq]
  ·rename_i h;obtain⟨rfl,hq⟩:=hq;simp[hq,ixo_no (Bool.eq_false_iff.2 h)]
theorem run249 (l:List Str) (x:Str) (hl:l.length<100000000000):K 249 [.dat (.sl (l.map S)),.dat (.str x)] []=some (.dat (.bool (l.contains x)),[]):=
 ce rfl (by simp[run264 l x hl,ixo_any,List.elem_eq_contains,List.contains_eq_any_beq])
abbrev U8 (b:UInt8):Dat:=.int .u8 (b.toNat:Int)
theorem letr_eq (b:UInt8):letr b=((decide ((97:Int)≤b.toNat)&&decide ((b.toNat:Int)≤122))||(decide ((65:Int)≤b.toNat)&&decide ((b.toNat:Int)≤90))):=by
 unfold letr;rw[Bool.eq_iff_iff];simp only[decide_eq_true_eq,Bool.or_eq_true,Bool.and_eq_true];omega
theorem run263 (b:UInt8):K 263 [.dat (U8 b)] []=some (.dat (.bool (letr b)),[]):=ce rfl (by
 rw[letr_eq];by_cases c1:(97:Int)≤b.toNat<;>by_cases c2:(b.toNat:Int)≤122<;>by_cases c3:(65:Int)≤b.toNat<;>by_cases c4:(b.toNat:Int)≤90<;>simp[*])
@[simp] theorem len_a (a:Nat):((a:Int)+1<1)=False:=by simp;omega
@[simp] theorem len_b (a:Nat):(1≤(a:Int)+1)=True:=by simp;omega
theorem lett_eq (b:UInt8):lett b=(letr b||(decide ((b.toNat:Int)=95)||(!decide ((b.toNat:Int)<48)&&!decide ((57:Int)<b.toNat)))):=by
 unfold lett
 congr 1
 rw[Bool.eq_iff_iff];simp only[decide_eq_true_eq,Bool.or_eq_true,Bool.and_eq_true,Bool.not_eq_true',decide_eq_false_iff_not];omega
theorem nm_loop (L:Str) (hl:L.length<100000000000) (s:St) (hs:hd [0,19,20] [] s=some ⟨[(0,.dat (.str L)),(19,.dat (N L.length)),(20,.dat (N 0))],[]⟩):
  Ev (zga7 (exec K l248_0) s) fun q=>if L.all lett=true then q.1=.exit 0∧hd [] [] q.2=some ⟨[],[]⟩ else q.1=.ret∧endK [.t 2] false 0 q=some (.dat (.bool false),[]):=by
 refine zhb7 (live:=[0,19,20]) (drop:=[]) L (by omega) (fun k=>⟨[(0,.dat (.str L)),(19,.dat (N L.length)),(20,.dat (N k))],[]⟩)
  (fun i q=>if (L.drop i).all lett=true then q.1=.exit 0∧hd [] [] q.2=some ⟨[],[]⟩ else q.1=.ret∧endK [.t 2] false 0 q=some (.dat (.bool false),[]))
  (fun i y s g1 g2 g3 ix hs=>?_) (fun s hs=>?_) s hs
 ·cases d1:letr y
  ·rcases Classical.propComplete ((y.toNat:Int)=95) with d2|d2<;>by_cases d3:(y.toNat:Int)<48<;>by_cases d4:(57:Int)<y.toNat <;>
    (have hy:=lett_eq y
     simp only[d1,d2,d3,d4,decide_true,decide_false,Bool.not_true,Bool.not_false,Bool.and_self,Bool.and_true,Bool.and_false,Bool.or_true,Bool.or_false]at hy;simp[hs,g1,g2,g3,ix,zxb7 g1,run263,hy,d1,d2,d3,d4])
  ·have hy:lett y=true:=by simp[lett,d1]
   simp[hs,g1,g2,g3,ix,zxb7 g1,run263,hy,d1]
 ·simp[hs]
theorem run248 (s:Str):K 248 [.dat (.str s)] []=some (.dat (.bool (nmOk s)),[]):=by
 refine ce rfl ?_
 match s with
 |[]=>simp[nmOk]
 |c::r=>
  by_cases h1:(16:Int)<r.length+1
  ·have h1':¬r.length+1≤16:=by omega
   simp[nmOk,h1,h1']
  ·have h1':r.length+1≤16:=by omega
   cases h2:letr c
   ·simp[nmOk,h1,h1',h2,run263]
   ·simp[nmOk,h1,h1',h2,run263];simp only[zaa7];refine (nm_loop (c::r) (by simp only[List.length_cons];omega) _ (by simp)).mono ?_
    ·rintro⟨y,s⟩ hq;simp only[List.drop_zero]at hq;have e:(c::r).all lett=r.all lett:=by simp[lett,h2]
     rw[e]at hq;split at hq
     ·rename_i h;obtain⟨rfl,hq⟩:=hq;simp[hq,h]
     ·rename_i h;obtain⟨rfl,hq⟩:=hq;simp[hq,h]
end Go.Am.E

set_option maxRecDepth 10000
set_option maxHeartbeats 1000000
namespace Go.Am.E
open Go.Proofs Go.Ex Go.Rc
theorem zmf7 {α:Type} {l:List α} {i:Nat} {x:α} (h:l[i]?=some x):l.take (i+1)=l.take i++[x]:=by
 rw[List.take_add_one,h];rfl
theorem run204 (p:Pg) (hl:p.vs.length<1000000000):K 204 [.dat (PD p)] []=some (.dat (.sl ((p.vs.map (·.1)).map S)),[]):=by
 refine ce rfl ?_;simp;simp only[zaa7]
 refine (zhb7 (live:=[3,7,8,9]) (drop:=[3,7]) p.vs (by omega) (fun k=>⟨[(3,.rsl ((4,0),0,0) k 1 0 k),(7,.dat (.sl (p.vs.map VD))),(8,.dat (N p.vs.length)),(9,.dat (N k))],[((4,0),.plain (.arr 1 k false ((p.vs.take k).map fun v=>S v.1)))]⟩)
  (fun k q=>q.1=.exit 0∧hd [3] [] q.2=some ⟨[(3,.rsl ((4,0),0,0) p.vs.length 1 0 p.vs.length)],[((4,0),.plain (.arr 1 p.vs.length false (p.vs.map fun v=>S v.1)))]⟩)
  (fun i y s h1 h2 h3 ix hs=>?_) (fun s hs=>?_) _ (by simp)).mono ?_
 ·have hr:(i+1)*17≤1099511627776:=by omega
  have h4:i≤p.vs.length:=by omega
  obtain⟨a,b⟩:=y;have h5:=zmf7 (l:=p.vs.map fun v=>S v.1) (i:=i) (x:=S a) (by simp[h1]);simp[hs,h1,h2,h3,ix,hr,h4,VD,h5]
 ·simp[hs]
 ·rintro⟨y,s⟩ ⟨rfl,hq⟩;simp[hq,List.map_map,Function.comp_def]
theorem run206 (p:Pg) (hl:p.fs.length<1000000000):K 206 [.dat (PD p)] []=some (.dat (.sl ((p.fs.map (·.1)).map S)),[]):=by
 refine ce rfl ?_;simp;simp only[zaa7]
 refine (zhb7 (live:=[3,7,8,9]) (drop:=[3,7]) p.fs (by omega) (fun k=>⟨[(3,.rsl ((4,0),0,0) k 1 0 k),(7,.dat (.sl (p.fs.map FD))),(8,.dat (N p.fs.length)),(9,.dat (N k))],[((4,0),.plain (.arr 1 k false ((p.fs.take k).map fun v=>S v.1)))]⟩)
  (fun k q=>q.1=.exit 0∧hd [3] [] q.2=some ⟨[(3,.rsl ((4,0),0,0) p.fs.length 1 0 p.fs.length)],[((4,0),.plain (.arr 1 p.fs.length false (p.fs.map fun v=>S v.1)))]⟩)
  (fun i y s h1 h2 h3 ix hs=>?_) (fun s hs=>?_) _ (by simp)).mono ?_
 ·have hr:(i+1)*17≤1099511627776:=by omega
  have h4:i≤p.fs.length:=by omega
  obtain⟨a,b⟩:=y;have h5:=zmf7 (l:=p.fs.map fun v=>S v.1) (i:=i) (x:=S a) (by simp[h1]);simp[hs,h1,h2,h3,ix,hr,h4,FD,h5]
 ·simp[hs]
 ·rintro⟨y,s⟩ ⟨rfl,hq⟩;simp[hq,List.map_map,Function.comp_def]
theorem nms_drop {l:List Str} {i:Nat} {x:Str} (h:l[i]?=some x):nms (l.take i) (l.drop i)=if nmOk x=false then 6 else if x∈l.take i then 7 else nms (l.take (i+1)) (l.drop (i+1)):=by
 rw[zxb7 h,zmf7 h];rfl
theorem run205 (l:List Str) (hl:l.length<1000000000):∃n:Int,K 205 [.dat (.sl (l.map S))] []=some (.tup [.dat (N (nms [] l)),.dat (N n)],[]):=by
 have key:Ev (zed7 K fn205 [.dat (.sl (l.map S))] []) fun r=>∃n:Int,r=(.tup [.dat (N (nms [] l)),.dat (N n)],[]):=by
  simp;simp only[zaa7]
  refine (zhb7 (live:=[0,6,7,8]) (drop:=[]) l (by omega) (fun k=>⟨[(0,.dat (.sl (l.map S))),(6,.dat (.sl (l.map S))),(7,.dat (N l.length)),(8,.dat (N k))],[]⟩)
   (fun i q=>if nms (l.take i) (l.drop i)=0 then q.1=.exit 0∧hd [] [] q.2=some ⟨[],[]⟩ else q.1=.ret∧∃n:Int,endK [.t 2,.t 3] false 0 q=some (.tup [.dat (N (nms (l.take i) (l.drop i))),.dat (N n)],[]))
   (fun i y s h1 h2 h3 ix hs'=>?_) (fun s hs=>?_) _ (by simp)).mono ?_
  ·have h4:=run248 y;have h5:=run249 (l.take i) y (by simp;omega);rw[List.map_take]at h5;have h6:i≤l.length:=by omega
   have h9:=nms_drop h1;cases h7:nmOk y
   ·simp[hs',h1,h2,h3,ix,h4,h7,h9]
   ·by_cases h8:y∈l.take i
    ·simp[hs',h1,h2,h3,ix,h4,h5,h6,h7,h8,h9]
    ·simp[hs',h1,h2,h3,ix,h4,h5,h6,h7,h8,h9]
  ·simp[hs,nms]
  ·rintro⟨y,s⟩ hq;simp only[List.drop_zero,List.take_zero]at hq;split at hq
   ·rename_i h;obtain⟨rfl,hq⟩:=hq;simp[hq,h]
   ·rename_i h;obtain⟨rfl,n,hq⟩:=hq;simp[hq]
 obtain⟨r,h1,n,rfl⟩:=key;exact⟨n,ce (fn:=fn205) rfl ⟨_,h1,rfl⟩⟩
end Go.Am.E

set_option maxRecDepth 10000
set_option maxHeartbeats 4000000
namespace Go.Am.E
open Go.Proofs Go.Ex Go.Rc
theorem fst0_drop {α:Type} {f:α→Int} {l:List α} {i:Nat} {x:α} (h:l[i]?=some x):fst0 ((l.map f).drop i)=if f x=0 then fst0 ((l.map f).drop (i+1)) else f x:=by
 rw[zxb7 (l:=l.map f) (x:=f x) (by simp[h])];rfl
@[simp] theorem drop_map_len {α β:Type} (f:α→β) (l:List α):(l.map f).drop l.length=[]:=List.drop_of_length_le (by simp)
abbrev nonePl:Dat:=.agg [N (-1),N (-1)]
abbrev SL (l:List Str):Dat:=.sl (l.map S)
theorem names_loop (L:List (List Str)) (hL:L.length<1000) (hl:∀l∈L,l.length<1000000000) (p:Pg) (s:St)
  (hs:hd [1,3,16,17,18] [1,3,16] s=some ⟨[(1,.ref ((2,0),0,0) 0),(3,.ref ((4,0),0,0) 0),(16,.dat (.sl (L.map SL))),(17,.dat (N L.length)),(18,.dat (N 0))],[((2,0),.plain (.box ((PDl p).map AVal.dat))),((4,0),.plain (.box [.dat (N 0),.dat (N 0)]))]⟩):
  Ev (zga7 (exec K l136_0) s) fun q=>if fst0 (L.map (nms []))=0 then q.1=.exit 0∧hd [1,3] [] q.2=some ⟨[(1,.ref ((2,0),0,0) 0),(3,.ref ((4,0),0,0) 0)],[((2,0),.plain (.box ((PDl p).map AVal.dat))),((4,0),.plain (.box [.dat (N 0),.dat (N 0)]))]⟩ else q.1=.ret∧endK [.t 2,.cell 3 2 true] false 0 q=some (.tup [.dat (N (fst0 (L.map (nms [])))),.dat nonePl],[]):=by
 refine zhb7 (live:=[1,3,16,17,18]) (drop:=[1,3,16]) L (by omega) (fun k=>⟨[(1,.ref ((2,0),0,0) 0),(3,.ref ((4,0),0,0) 0),(16,.dat (.sl (L.map SL))),(17,.dat (N L.length)),(18,.dat (N k))],[((2,0),.plain (.box ((PDl p).map AVal.dat))),((4,0),.plain (.box [.dat (N 0),.dat (N 0)]))]⟩)
  (fun i q=>if fst0 ((L.map (nms [])).drop i)=0 then q.1=.exit 0∧hd [1,3] [] q.2=some ⟨[(1,.ref ((2,0),0,0) 0),(3,.ref ((4,0),0,0) 0)],[((2,0),.plain (.box ((PDl p).map AVal.dat))),((4,0),.plain (.box [.dat (N 0),.dat (N 0)]))]⟩ else q.1=.ret∧endK [.t 2,.cell 3 2 true] false 0 q=some (.tup [.dat (N (fst0 ((L.map (nms [])).drop i))),.dat nonePl],[]))
  (fun i y s h1 h2 h3 ix hs=>?_) (fun s hs=>?_) s hs
 ·have h4:=fst0_drop (f:=nms []) h1;obtain⟨n,h5⟩:=run205 y (hl y (List.mem_of_getElem? h1));by_cases d:nms [] y=0
  ·rw[if_pos d]at h4;simp[hs,h1,h2,h3,ix,h4,h5,d]
  ·rw[if_neg d]at h4;simp[hs,h1,h2,h3,ix,h4,h5,d]
 ·simp[hs,fst0]
theorem fst0_app:∀(l r:List Int),fst0 (l++r)=if fst0 l=0 then fst0 r else fst0 l
 |[],r=>by simp[fst0]
 |e::l,r=>by
  have ih:=fst0_app l r;by_cases h:e=0
  ·have e1:fst0 (e::l)=fst0 l:=if_pos h;have e2:fst0 (e::l++r)=fst0 (l++r):=if_pos h;rw[e2,ih];simp[e1]
  ·have e1:fst0 (e::l)=e:=if_neg h;have e2:fst0 (e::l++r)=e:=if_neg h;rw[e2];simp[e1,h]
theorem nmsE_app (p:Pg):nmsE p=if fst0 ([p.vs.map (·.1),p.ms,p.cs].map (nms []))=0 then nms [] (p.fs.map (·.1)) else fst0 ([p.vs.map (·.1),p.ms,p.cs].map (nms [])):=by
 have:=fst0_app ([p.vs.map (·.1),p.ms,p.cs].map (nms [])) [nms [] (p.fs.map (·.1))];have e:fst0 [nms [] (p.fs.map (·.1))]=nms [] (p.fs.map (·.1)):=by simp only[fst0];split<;>simp[*]
 rw[e]at this;exact this
theorem run136 (p:Pg) (h1:p.vs.length<1000000000) (h2:p.ms.length<1000000000) (h3:p.cs.length<1000000000) (h4:p.fs.length<1000000000):
  ∃a b:Int,K 136 [.dat (PD p)] []=some (.tup [.dat (N (nmsE p)),.dat (.agg [N a,N b])],[]):=by
 obtain⟨n,h5⟩:=run205 (p.fs.map (·.1)) (by simpa using h4);have h6:=run204 p h1;have h7:=run206 p h4;by_cases d:fst0 ([p.vs.map (·.1),p.ms,p.cs].map (nms []))=0
 ·have e:nmsE p=nms [] (p.fs.map (·.1)):=by
   rw[nmsE_app,if_pos d]
  refine⟨n,-1,ce rfl ?_⟩;simp at h5 h6 h7;simp[h6];simp only[zaa7];refine (names_loop [p.vs.map (·.1),p.ms,p.cs] (by simp) (by simp[h1,h2,h3]) p _ (by simp[h6])).mono ?_;rintro⟨y,s⟩ hq;rw[if_pos d]at hq;obtain⟨rfl,hq⟩:=hq;simp[hq,h7,h5,e]
 ·have e:nmsE p=fst0 ([p.vs.map (·.1),p.ms,p.cs].map (nms [])):=by
   rw[nmsE_app,if_neg d]
  refine⟨-1,-1,ce rfl ?_⟩;simp at h6;simp[h6];simp only[zaa7];refine (names_loop [p.vs.map (·.1),p.ms,p.cs] (by simp) (by simp[h1,h2,h3]) p _ (by simp[h6])).mono ?_;rintro⟨y,s⟩ hq;rw[if_neg d]at hq;obtain⟨rfl,hq⟩:=hq;simp only[←e]at hq;simp[hq]
end Go.Am.E

set_option maxRecDepth 10000
set_option maxHeartbeats 4000000
namespace Go.Am.E
open Go.Proofs Go.Ex Go.Rc
def lgF (f:Str×List In):Bool:=decide (64<f.2.length)
theorem run209 (f:Str×List In):K 209 [.dat (FD f)] []=some (.dat (.bool (lgF f)),[]):=ce rfl (by
 obtain⟨n,l⟩:=f;have e:((64:Int)<l.length)=(64<l.length):=by rw[eq_iff_iff];omega
 simp[FD,e,lgF])
def ixf {α:Type} (p:α→Bool) (i:Nat) (x:α):Option Nat:=if p x=true then some i else none
theorem scan_ixo {α:Type} (p:α→Bool):∀(l:List α) (k:Nat),ixo p l k=match scan (ixf p) l k with
  |some i=>(i:Int)
  |none => -1
 |[],_=>rfl
 |a::r,k=>by
  have ih:=scan_ixo p r (k+1);cases c:p a<;>simp[ixo,scan,ixf,c,ih]
theorem run208 (l:List (Str×List In)) (hl:l.length<100000000000):K 208 [.dat (.sl (l.map FD)),.fn 209 []] []=some (.dat (N (ixo lgF l 0)),[]):=by
 refine ce rfl ?_;rw[scan_ixo];simp;simp only[zaa7]
 refine (zvb7 (live:=[0,1,7,8]) (drop:=[]) l (ixf lgF) (by omega) (fun k=>⟨[(0,.dat (.sl (l.map FD))),(1,.fn 209 []),(7,.dat (N l.length)),(8,.dat (N k))],[]⟩)
  (fun q=>q.1=.exit 0∧hd [] [] q.2=some ⟨[],[]⟩) (fun i q=>q.1=.ret∧endK [.t 4] false 0 q=some (.dat (N i),[]))
  (fun i y s h1 h2 h3 ix hs=>?_) (fun s hs=>?_) _ (by simp)).mono ?_
 ·have h4:=run209 y;obtain⟨n,c⟩:=y;simp only[FD]at h4;cases c:lgF (n,c)<;>simp[hs,h1,h2,h3,ix,c,h4,YID,FD,ixf]
 ·simp[hs]
 ·rintro⟨y,s⟩ hq;cases c:scan (ixf lgF) l 0<;>rw[c]at hq<;>obtain⟨rfl,hq⟩:=hq<;>simp[hq]
abbrev bxs (l:List Dat):TObj:=.plain (.box (l.map AVal.dat))
abbrev L111 (st:LSt):TObj:=.plain (.blk (.loop 138 st [(1,.ref ((0,1),0,0) 0),(2,.ref ((0,2),0,0) 0),(3,.ref ((0,3),0,0) 0),(4,.ref ((0,4),0,0) 0)]))
abbrev O111 (p:Pg) (long:Int) (st:LSt) (e a b:Int):List TObj:=[L111 st,bxs (PDl p),bxs [N e],bxs [N a,N b],bxs [N long]]
theorem y111 (p:Pg) (long:Int) (f:Nat) (i:Int) (x:In) (F:Str×List In) (hF:p.fs[f]?=some F):
  K YID [.dat (.agg [N f,N i]),.dat (ID x),.bref true ((0,0),0,0)] (O111 p long .ready 0 0 0)=
   some (if (f:Int)=long then (.dat (.bool false),O111 p long (.done (.exit 0)) 0 0 0) else if insE p F.2.length x=0 then (.dat (.bool true),O111 p long .ready 0 0 0) else (.dat (.bool false),O111 p long (.done .ret) (insE p F.2.length x) f i)):=by
 refine yield_ev (k:=138) (j:=0) (lp:=lp138) rfl rfl rfl rfl ?_;have h1:=run211 p x F.2.length;obtain⟨h2,h3⟩:=List.getElem?_eq_some_iff.1 hF;have h4:(f:Int)<p.fs.length:=by omega
 by_cases c:(f:Int)=long
 ·simp[c]
 ·by_cases d:insE p F.2.length x=0
  ·simp[c,d,h1,h2,h3,h4,hF,FD]
  ·simp[c,d,h1,h2,h3,h4,hF,FD]
abbrev Stp:=LSt×Int×Int×Int
def g111 (p:Pg) (long:Int) (f n:Nat) (i:Nat) (x:In):Option Stp:=
 if (f:Int)=long then some (.done (.exit 0),0,0,0) else if insE p n x=0 then none else some (.done .ret,insE p n x,f,i)
def f111 (p:Pg) (long:Int) (f:Nat) (F:Str×List In):Option Stp:=scan (g111 p long f F.2.length) F.2 0
abbrev L239 (st:LSt):TObj:=.plain (.blk (.loop 138 st [(1,.ref ((0,2),0,0) 0),(2,.ref ((0,3),0,0) 0),(3,.ref ((0,4),0,0) 0),(4,.ref ((0,5),0,0) 0)]))
abbrev O239 (p:Pg) (long:Int) (q:Stp):List TObj:=[L239 q.1,bxs (PDl p),bxs (PDl p),bxs [N q.2.1],bxs [N q.2.2.1,N q.2.2.2],bxs [N long]]
abbrev S111 (p:Pg) (long:Int) (q:Stp):zsa7:=[((0,0),L239 q.1),((0,1),bxs (PDl p)),((0,2),bxs (PDl p)),((0,3),bxs [N q.2.1]),((0,4),bxs [N q.2.2.1,N q.2.2.2]),((0,5),bxs [N long])]
abbrev rdyS:Stp:=(.ready,0,0,0)
abbrev E239 (p:Pg) (f:Nat):Env:=[(0,.bref true ((0,0),0,0)),(8,.dat (.sl (p.fs.map FD))),(9,.dat (N p.fs.length)),(10,.dat (N f))]
theorem in239 (p:Pg) (long:Int) (f:Nat) (F:Str×List In) (hF:p.fs[f]?=some F) (hl:F.2.length<1000000000) (s:St)
  (hs:hd [0,3,8,9,10,16,17,18] [0,8,16] s=some ⟨[(0,.bref true ((0,0),0,0)),(3,.dat (N f)),(8,.dat (.sl (p.fs.map FD))),(9,.dat (N p.fs.length)),(10,.dat (N f)),(16,.dat (.sl (F.2.map ID))),(17,.dat (N F.2.length)),(18,.dat (N 0))],S111 p long rdyS⟩):
  Ev (zga7 (exec K l250_0) s) (oQ (fun q=>q.1=.exit 2∧hd [0,8,9,10] [] q.2=some ⟨E239 p f,S111 p long rdyS⟩) (fun b q=>q.1=.ret∧endK [] false 6 q=some (.tup [],O239 p long b)) (f111 p long f F)):=by
 refine zvb7 (live:=[0,3,8,9,10,16,17,18]) (drop:=[0,8,16]) F.2 (g111 p long f F.2.length) (by omega) (fun k=>⟨[(0,.bref true ((0,0),0,0)),(3,.dat (N f)),(8,.dat (.sl (p.fs.map FD))),(9,.dat (N p.fs.length)),(10,.dat (N f)),(16,.dat (.sl (F.2.map ID))),(17,.dat (N F.2.length)),(18,.dat (N k))],S111 p long rdyS⟩) _ _
  (fun i y s h1 h2 h3 ix hs=>?_) (fun s hs=>?_) s hs
 ·have hy:=y111 p long f i y F hF;simp only[YID,O111,L111,bxs,PDl,List.map_cons,List.map_nil]at hy;by_cases c:(f:Int)=long
  ·simp[c]at hy;simp[hs,h1,h2,h3,ix,YID,hy,c,g111]
  ·by_cases d:insE p F.2.length y=0
   ·simp[c,d]at hy;simp[hs,h1,h2,h3,ix,YID,hy,c,d,g111]
   ·simp[c,d]at hy;simp[hs,h1,h2,h3,ix,YID,hy,c,d,g111]
 ·simp[hs]
def stp111 (p:Pg) (long:Int):Option Stp:=scan (f111 p long) p.fs 0
theorem run250 (p:Pg) (long:Int) (hl:p.fs.length<1000000000) (hc:∀F∈p.fs,F.2.length<1000000000):
  K 250 [.bref true ((0,0),0,0),.ref ((0,1),0,0) 0] (O239 p long rdyS)=some (.tup [],O239 p long ((stp111 p long).getD rdyS)):=by
 refine ce rfl ?_;simp;simp only[zaa7]
 refine (zvb7 (live:=[0,8,9,10]) (drop:=[0,8]) p.fs (f111 p long) (by omega) (fun k=>⟨E239 p k,S111 p long rdyS⟩) (fun q=>q.1=.exit 0∧hd [] [] q.2=some ⟨[],S111 p long rdyS⟩)
  (fun b q=>q.1=.ret∧endK [] false 6 q=some (.tup [],O239 p long b))
  (fun i y s h1 h2 h3 ix hs=>?_) (fun s hs=>?_) _ (by simp)).mono ?_
 ·have h4:=in239 p long i y h1 (hc y (List.mem_of_getElem? h1));obtain⟨n,c⟩:=y;simp[hs,h1,h2,h3,ix,FD];simp only[zaa7];refine (h4 _ (by simp[hs,h1,h2,h3,ix,FD])).mono ?_;rintro⟨y,s⟩ hq;cases c:f111 p long i (n,c)<;>rw[c]at hq<;>obtain⟨rfl,hq⟩:=hq<;>simp[hq,ix]
 ·simp[hs]
 ·rintro⟨y,s⟩ hq;unfold stp111;cases c:scan (f111 p long) p.fs 0<;>rw[c]at hq<;>obtain⟨rfl,hq⟩:=hq
  ·obtain⟨env,objs⟩:=s;simp only[hd_eq,restrict_nil,dropE_nil,Option.some.injEq,St.mk.injEq,true_and]at hq;simp[hq]
  ·simp[hq]
theorem run210 (p:Pg):K 210 [.dat (PD p)] []=some (.fn 250 [.ref ((0,0),0,0) 0],[.plain (.box ((PDl p).map AVal.dat))]):=ce rfl (by simp)
theorem scan_g (p:Pg) {long:Int} (f n:Nat) (hne:(f:Int)≠long):∀(l:List In) (k:Nat),(scan (g111 p long f n) l k=none∧fst0 (l.map (insE p n))=0)∨∃e a b,scan (g111 p long f n) l k=some (.done .ret,e,a,b)∧fst0 (l.map (insE p n))=e∧e≠0
 |[],k=>.inl ⟨rfl,rfl⟩
 |x::r,k=>by
  have ih:=scan_g p f n hne r (k+1);by_cases c:insE p n x=0
  ·simp only[scan,g111,c,hne,if_true,if_false,List.map_cons,fst0];exact ih
  ·right;exact⟨insE p n x,f,k,by simp[scan,g111,c,hne],by simp[fst0,c],c⟩
theorem scan_f (p:Pg):∀(l:List (Str×List In)) (k:Nat) (L:Int),L=ixo lgF l k→(scan (f111 p L) l k=none∧L = -1∧fst0 (l.map (funE p))=0)∨(scan (f111 p L) l k=some (.done (.exit 0),0,0,0)∧0≤L∧fst0 (l.map (funE p))=4)∨∃e a b,scan (f111 p L) l k=some (.done .ret,e,a,b)∧fst0 (l.map (funE p))=e∧e≠0
 |[],k,L,h=>.inl ⟨rfl,h,rfl⟩
 |F::r,k,L,h=>by
  cases c:lgF F
  ·have h':L=ixo lgF r (k+1):=by rw[h];simp[ixo,c]
   have hk:∀(r:List (Str×List In)) (k:Nat),ixo lgF r k = -1∨(k:Int)≤ixo lgF r k:=by
    intro r
    induction r with
    |nil=>intro k;exact .inl rfl
    |cons a r ih=>
     intro k;simp only[ixo];split
     ·exact .inr (Int.le_refl _)
     ·rcases ih (k+1) with h|h
      ·exact .inl h
      ·right;omega
   have hne:(k:Int)≠L:=by rcases hk r (k+1) with h1|h1<;>rw[h']<;>omega
   have c':¬64<F.2.length:=by simpa[lgF]using c
   have e1:funE p F=fst0 (F.2.map (insE p F.2.length)):=if_neg c';rcases scan_g p k F.2.length hne F.2 0 with⟨h1,h2⟩|⟨e,a,b,h1,h2,h3⟩
   ·simp only[scan,f111,h1,List.map_cons,fst0,e1,h2,if_true];exact scan_f p r (k+1) L h'
   ·refine .inr (.inr ⟨e,a,b,by simp[scan,f111,h1],by simp[fst0,e1,h2,h3],h3⟩)
  ·have h':L=k:=by rw[h];simp[ixo,c]
   have c':64<F.2.length:=by simpa[lgF]using c
   right;left;obtain⟨n,l⟩:=F;cases l with
   |nil=>simp at c'
   |cons x l=>exact⟨by simp[scan,f111,g111,h'],by omega,by simp only[List.map_cons,fst0,funE,c',if_true];rfl⟩
theorem run138 (p:Pg) (hl:p.fs.length<1000000000) (hc:∀F∈p.fs,F.2.length<1000000000):∃a b:Int,K 138 [.dat (PD p)] []=some (.tup [.dat (N (codE p)),.dat (.agg [N a,N b])],[]):=by
 have h1:=run208 p.fs (by omega);have h2:=run210 p;have h3:=run250 p (ixo lgF p.fs 0) hl hc;simp only[O239,L239,bxs,PDl,List.map_cons,List.map_nil]at h3;unfold codE;rcases scan_f p p.fs 0 _ rfl with⟨c1,c2,c3⟩|⟨c1,c2,c3⟩|⟨e,a,b,c1,c2,c3⟩<;>unfold stp111 at h3<;>rw[c1]at h3
 ·refine⟨-1,-1,ce rfl ?_⟩;simp only[c2]at h1 h3;simp[h1,h2,h3,YID,c3]
 ·refine⟨ixo lgF p.fs 0,-1,ce rfl ?_⟩;simp[h1,h2,h3,YID,c2,c3]
 ·refine⟨a,b,ce rfl ?_⟩;simp[h1,h2,h3,YID,c2]
end Go.Am.E

set_option maxRecDepth 10000
set_option maxHeartbeats 4000000
namespace Go.Am.E
open Go.Proofs Go.Ex Go.Rc
def CD (c:Cf):Dat:=.agg [N c.md,N c.bd]
theorem stE_cases (p:Pg) (a b:Int):(a<0∧stE p (a,b)=11)∨(¬a<0∧(p.fs.length:Int)≤a∧stE p (a,b)=11)∨(¬a<0∧¬(p.fs.length:Int)≤a∧okV b=true∧stE p (a,b)=0)∨(¬a<0∧¬(p.fs.length:Int)≤a∧okV b=false∧stE p (a,b)=2):=by
 unfold stE;by_cases h1:a<0
 ·exact .inl ⟨h1,if_pos (by omega)⟩
 ·by_cases h2:(p.fs.length:Int)≤a
  ·exact .inr (.inl ⟨h1,h2,if_pos (by omega)⟩)
  ·cases h3:okV b
   ·exact .inr (.inr (.inr ⟨h1,h2,rfl,by rw[if_neg (by omega)];rfl⟩))
   ·exact .inr (.inr (.inl ⟨h1,h2,rfl,by rw[if_neg (by omega)];rfl⟩))
theorem run139 (p:Pg):K 139 [.dat (PD p)] []=some (.tup [.dat (N (thrE p)),.dat nonePl],[]):=by
 refine ce rfl ?_;unfold thrE;by_cases c1:(p.ts.length:Int)<1
 ·have c1':p.ts.length<1∨8<p.ts.length:=by omega
  rw[if_pos c1'];simp[c1]
 ·by_cases c2:(8:Int)<p.ts.length
  ·have c1':p.ts.length<1∨8<p.ts.length:=by omega
   rw[if_pos c1'];simp[c1,c2]
  ·have c1':¬(p.ts.length<1∨8<p.ts.length):=by omega
   rw[if_neg c1'];simp[c1,c2];simp only[zaa7]
   refine (zhb7 (live:=[1,3,4,20,21,22]) (drop:=[1,3,4,20]) p.ts (by omega) (fun k=>⟨[(1,.ref ((2,0),0,0) 0),(3,.ref ((4,0),0,0) 0),(4,.ref ((5,0),0,0) 0),(20,.dat (.sl (p.ts.map NP))),(21,.dat (N p.ts.length)),(22,.dat (N k))],
     [((2,0),.plain (.box ((PDl p).map AVal.dat))),((4,0),.plain (.box [.dat (N 0),.dat (N 0)])),((5,0),.plain (.box [.dat (N (-1)),.dat (N (-1))]))]⟩)
    (fun i q=>if fst0 ((p.ts.map (stE p)).drop i)=0 then q.1=.exit 0∧hd [3,4] [] q.2=some ⟨[(3,.ref ((4,0),0,0) 0),(4,.ref ((5,0),0,0) 0)],[((2,0),.plain (.box ((PDl p).map AVal.dat))),((4,0),.plain (.box [.dat (N 0),.dat (N 0)])),((5,0),.plain (.box [.dat (N (-1)),.dat (N (-1))]))]⟩ else q.1=.ret∧endK [.t 2,.cell 3 2 true] false 0 q=some (.tup [.dat (N (fst0 ((p.ts.map (stE p)).drop i))),.dat nonePl],[]))
    (fun i y s h1 h2 h3 ix hs=>?_) (fun s hs=>?_) _ (by simp)).mono ?_
   ·have h4:=fst0_drop (f:=stE p) h1;obtain⟨a,b⟩:=y
    rcases stE_cases p a b with⟨d1,e⟩|⟨d1,d2,e⟩|⟨d1,d2,d3,e⟩|⟨d1,d2,d3,e⟩ <;>
     simp only[e]at h4<;>simp[hs,h1,h2,h3,ix,NP,run207,h4, *]
   ·simp[hs,fst0]
   ·rintro⟨y,s⟩ hq;simp only[List.drop_zero]at hq;split at hq
    ·rename_i h;obtain⟨rfl,hq⟩:=hq;simp[hq,h]
    ·rename_i h;obtain⟨rfl,hq⟩:=hq;simp[hq,h]
theorem run137 (p:Pg) (hl:p.vs.length<1000000000):K 137 [.dat (PD p)] []=some (.tup [.dat (N (if limE p=0 then iniE p else limE p)),.dat nonePl],[]):=by
 refine ce rfl ?_;by_cases hlim:limE p=0
 ·rw[if_pos hlim];unfold limE at hlim;have c1:¬(8:Int)<p.vs.length∧¬(4:Int)<p.ms.length∧¬(4:Int)<p.cs.length∧¬(8:Int)<p.fs.length:=by split at hlim<;>omega
  obtain⟨c1,c2,c3,c4⟩:=c1;simp[c1,c2,c3,c4];simp only[zaa7]
  refine (zhb7 (live:=[3,4,32,33,34]) (drop:=[3,4,32]) p.vs (by omega) (fun k=>⟨[(3,.ref ((4,0),0,0) 0),(4,.ref ((5,0),0,0) 0),(32,.dat (.sl (p.vs.map VD))),(33,.dat (N p.vs.length)),(34,.dat (N k))],
    [((4,0),.plain (.box [.dat (N 0),.dat (N 0)])),((5,0),.plain (.box [.dat (N (-1)),.dat (N (-1))]))]⟩)
   (fun i q=>if ((p.vs.drop i).all fun v=>okV v.2)=true then q.1=.exit 0∧hd [3,4] [] q.2=some ⟨[(3,.ref ((4,0),0,0) 0),(4,.ref ((5,0),0,0) 0)],[((4,0),.plain (.box [.dat (N 0),.dat (N 0)])),((5,0),.plain (.box [.dat (N (-1)),.dat (N (-1))]))]⟩ else q.1=.ret∧endK [.t 2,.cell 3 2 true] false 0 q=some (.tup [.dat (N 2),.dat nonePl],[]))
   (fun i y s h1 h2 h3 ix hs=>?_) (fun s hs=>?_) _ (by simp)).mono ?_
  ·have h4:=zxb7 h1;obtain⟨a,b⟩:=y;have h5:((p.vs.drop i).all fun v=>okV v.2)=(okV b&&(p.vs.drop (i+1)).all fun v=>okV v.2):=by rw[h4];rfl
   cases d:okV b<;>rw[d]at h5
   ·simp[hs,h1,h2,h3,ix,VD,run207,h5,d]
   ·simp only[Bool.true_and]at h5;simp[hs,h1,h2,h3,ix,VD,run207,d];rw[h5];exact fun _ _ h=>h
  ·simp[hs]
  ·unfold iniE;rintro⟨y,s⟩ hq;simp only[List.drop_zero]at hq;split at hq
   ·rename_i h;obtain⟨rfl,hq⟩:=hq;rw[if_pos h];simp[hq]
   ·rename_i h;obtain⟨rfl,hq⟩:=hq;rw[if_neg h];simp[hq]
 ·rw[if_neg hlim];have hlim':limE p=4:=by unfold limE at hlim ⊢;split at hlim<;>simp_all
  rw[hlim'];unfold limE at hlim;by_cases c1:(8:Int)<p.vs.length
  ·simp[c1]
  ·by_cases c2:(4:Int)<p.ms.length
   ·simp[c1,c2]
   ·by_cases c3:(4:Int)<p.cs.length
    ·simp[c1,c2,c3]
    ·by_cases c4:(8:Int)<p.fs.length
     ·simp[c1,c2,c3,c4]
     ·exact absurd (if_neg (by omega)) hlim
end Go.Am.E

set_option maxRecDepth 10000
set_option maxHeartbeats 4000000
namespace Go.Am.E
open Go.Proofs Go.Ex Go.Rc
structure Fit (p:Pg):Prop where
 vs:p.vs.length<1000000000
 ms:p.ms.length<1000000000
 cs:p.cs.length<1000000000
 fs:p.fs.length<1000000000
 cd:∀F∈p.fs,F.2.length<1000000000
theorem chP_eq (p:Pg):chP p=if nmsE p=0 then (if (if limE p=0 then iniE p else limE p)=0 then (if codE p=0 then thrE p else codE p) else (if limE p=0 then iniE p else limE p)) else nmsE p:=by
 unfold chP;by_cases h1:nmsE p=0<;>by_cases h2:limE p=0<;>by_cases h3:iniE p=0<;>by_cases h4:codE p=0<;>by_cases h5:thrE p=0<;>simp[fst0,h1,h2,h3,h4,h5]
theorem run71 (p:Pg) (h:Fit p):∃a b:Int,K 71 [.dat (PD p)] []=some (.tup [.dat (N (chP p)),.dat (N a),.dat (N b)],[]):=by
 obtain⟨a1,b1,h1⟩:=run136 p h.vs h.ms h.cs h.fs;have h2:=run137 p h.vs;obtain⟨a3,b3,h3⟩:=run138 p h.fs h.cd;have h4:=run139 p;rw[chP_eq];generalize nmsE p=e1 at *
 generalize (if limE p=0 then iniE p else limE p)=e2 at *
 generalize codE p=e3 at *
 generalize thrE p=e4 at *
 by_cases c1:e1=0
 ·subst c1;by_cases c2:e2=0
  ·subst c2;by_cases c3:e3=0
   ·subst c3;by_cases c4:e4=0
    ·subst c4;refine⟨-1,-1,ce rfl ?_⟩;simp[*]
    ·refine⟨-1,-1,ce rfl ?_⟩;simp[*]
   ·refine⟨a3,b3,ce rfl ?_⟩;simp[*]
  ·refine⟨-1,-1,ce rfl ?_⟩;simp[*]
 ·refine⟨a1,b1,ce rfl ?_⟩;simp[*]
theorem run34 (p:Pg) (h:Fit p):K 34 [.dat (PD p)] []=some (.dat (.bool (decide (chP p=0))),[]):=by
 obtain⟨a,b,h1⟩:=run71 p h;exact ce rfl (by simp[h1])
theorem stdE_if (p:Pg) (bd:Int):stdE p bd=if chP p=0 then (if bd<1 then 2 else if 32<bd then 2 else 0) else chP p:=by
 unfold stdE;by_cases h1:chP p=0<;>by_cases h2:bd<1<;>by_cases h3:32<bd<;>simp[h1,h2,h3]
theorem run98 (p:Pg) (bd:Int) (h:Fit p):K 98 [.dat (PD p),.dat (N bd)] []=some (.dat (N (stdE p bd)),[]):=by
 obtain⟨a,b,h1⟩:=run71 p h;rw[stdE_if];refine ce rfl ?_;generalize chP p=e at *
 by_cases c1:e=0
 ·subst c1;by_cases h2:bd<1<;>by_cases h3:32<bd<;>simp[h1,h2,h3]
 ·simp[h1,c1]
theorem run202 (n:Int) (h:0≤n) (h2:n<100000000000000):K 202 [.dat (N n)] []=some (.tup [.dat (N (n / 8-1)),.dat (N (n % 8))],[]):=ce rfl (by
 have e:n.tdiv 8=n / 8:=Int.tdiv_eq_ediv_of_nonneg h;have e2:n.tmod 8=n % 8:=Int.tmod_eq_emod_of_nonneg h;have h1:IntKind.wrap .i64 (n / 8)=n / 8:=wrap_i64 (by omega) (by omega);have h3:IntKind.wrap .i64 (n / 8-1)=n / 8-1:=wrap_i64 (by omega) (by omega);simp[e,e2,h1,h3])
def depZ (id:Int):Int:=match dep id with
 |some d=>d
 |none => -1
def depP (d:Nat) (r:Option Nat) (q:AEx×St):Prop:=match r with
 |some r=>q.1=.ret∧endK [.t 2] false 0 q=some (.dat (N (d+r:Nat)),[])
 |none=>(q.1=.ret∧endK [.t 2] false 0 q=some (.dat (N (-1)),[]))∨(q.1=.exit 0∧hd [] [] q.2=some ⟨[],[]⟩)
theorem dep_loop:∀(k d:Nat) (e:Int) (s:St),d+k=5→0≤e→e<100000000000000→hd [0,8] [] s=some ⟨[(0,.dat (N e)),(8,.dat (N d))],[]⟩→Ev (zga7 (exec K l125_0) s) (depP d (dpt k e))
 |0,d,e,s,hk,h0,h1,hs=>by
  have:d=5:=by omega
  subst this;apply zya7;simp[hs,dpt,depP]
 |k+1,d,e,s,hk,h0,h1,hs=>by
  have ix:Ix d:=by unfold Ix;omega
  have h5:(d:Int)<5:=by omega
  have h6:=run202 e h0 h1;apply zya7;by_cases c1:e<8
  ·simp[hs,h5,c1,dpt,depP]
  ·by_cases c2:7≤e % 8
   ·simp[hs,h5,c1,c2,dpt,h6,depP]
   ·simp[hs,h5,c1,c2,dpt,h6,ix];refine (dep_loop k (d+1) (e / 8-1) _ (by omega) (by omega) (by omega) (by simp)).mono fun q hq=>?_
    cases c:dpt k (e / 8-1)<;>simp only[c,depP,Option.map_none,Option.map_some]at hq ⊢
    ·exact hq
    ·rename_i r;rw[show d+(r+1)=d+1+r by omega];exact hq
theorem run125 (id:Int) (hid:id<100000000000000):K 125 [.dat (N id)] []=some (.dat (N (depZ id)),[]):=by
 refine ce rfl ?_;by_cases h0:id<0
 ·simp[depZ,dep,h0]
 ·simp[h0];simp only[zaa7];refine (dep_loop 5 0 id _ rfl (by omega) hid (by simp)).mono ?_;rintro⟨y,s⟩ hq;simp only[depZ,dep,h0,if_false];cases c:dpt 5 id<;>simp only[c,depP]at hq
  ·rcases hq with⟨rfl,hq⟩|⟨rfl,hq⟩<;>simp[hq]
  ·obtain⟨rfl,hq⟩:=hq;simp[hq]
theorem dep_bd {k:Nat}:∀{id:Int} {d:Nat},dpt k id=some d→id<8 ^ k*16-8∧d<k:=by
 induction k with
 |zero=>intro id d h;simp[dpt]at h
 |succ k ih=>
  intro id d h;simp only[dpt]at h;have h8:(1:Int)≤8 ^ k:=Int.pow_pos (by omega);split at h
  ·injection h with h;rw[Int.pow_succ];omega
  ·split at h
   ·cases h
   ·cases c:dpt k (id / 8-1)<;>rw[c]at h
    ·cases h
    ·simp only[Option.map_some,Option.some.injEq]at h;have:=ih c;rw[Int.pow_succ];omega
def chdP (t:Th):Dat×Dat:=match chd t with
 |some c=>(N c,.bool true)
 |none=>(N 0,.bool false)
theorem run163 (t:Th) (hid:t.id<100000000000000):K 163 [.dat (TD t)] []=some (.tup [.dat (chdP t).1,.dat (chdP t).2],[]):=by
 have h1:=run125 t.id hid;unfold chdP chd;unfold depZ at h1;cases c:dep t.id with
 |none=>
  rw[c]at h1;exact ce rfl (by simp[h1])
 |some d=>
  rw[c]at h1
  have hb:t.id<8 ^ 5*16-8∧d<5∧0≤t.id:=by
   unfold dep at c;split at c
   ·cases c
   ·have:=dep_bd c;omega
  obtain⟨hb1,hb2,hb3⟩:=hb;refine ce rfl ?_;by_cases c1:d=4
  ·subst c1;simp[h1]
  ·have c1':¬(d:Int)=4:=by omega
   by_cases c2:t.ch<0
   ·simp[h1,c1,c1',c2]
   ·by_cases c3:7≤t.ch
    ·simp[h1,c1,c1',c2,c3]
    ·have w1:IntKind.wrap .i64 (t.id+1)=t.id+1:=wrap_i64 (by omega) (by omega);have w2:IntKind.wrap .i64 (8*(t.id+1))=8*(t.id+1):=wrap_i64 (by omega) (by omega);have w3:IntKind.wrap .i64 (8*(t.id+1)+t.ch)=8*(t.id+1)+t.ch:=wrap_i64 (by omega) (by omega);simp[h1,c1,c1',c2,c3,w1,w2,w3]
theorem run90 (l:List Int) (x:Int) (hl:l.length<100000000000):K 90 [.dat (Ns l),.dat (N x)] []=some (.dat (N (ixo (fun y=>x==y) l 0)),[]):=by
 refine ce rfl ?_;rw[scan_ixo];simp;simp only[zaa7]
 refine (zvb7 (live:=[0,1,7,8]) (drop:=[]) l (ixf fun y=>x==y) (by omega) (fun k=>⟨[(0,.dat (Ns l)),(1,.dat (N x)),(7,.dat (N l.length)),(8,.dat (N k))],[]⟩)
  (fun q=>q.1=.exit 0∧hd [] [] q.2=some ⟨[],[]⟩) (fun i q=>q.1=.ret∧endK [.t 4] false 0 q=some (.dat (N i),[]))
  (fun i y s h1 h2 h3 ix hs=>?_) (fun s hs=>?_) _ (by simp)).mono ?_
 ·by_cases c:x=y<;>simp[hs,h1,h2,h3,ix,c,ixf]
 ·simp[hs]
 ·rintro⟨y,s⟩ hq;cases c:scan (ixf fun y=>x==y) l 0<;>rw[c]at hq<;>obtain⟨rfl,hq⟩:=hq<;>simp[hq]
theorem run42 (l:List Int) (x:Int) (hl:l.length<100000000000):K 42 [.dat (Ns l),.dat (N x)] []=some (.dat (.bool (l.contains x)),[]):=
 ce rfl (by simp[run90 l x hl,ixo_any,List.elem_eq_contains,List.contains_eq_any_beq])
theorem run224 (l:List Int) (x:Int) (hl:l.length<100000000000):K 224 [.dat (Ns l),.dat (N x)] []=some (.dat (.bool (l.contains x)),[]):=
 ce rfl (by simp[run42 l x hl])
end Go.Am.E

set_option maxRecDepth 10000
set_option maxHeartbeats 4000000
namespace Go.Am.E
open Go.Proofs Go.Ex Go.Rc
attribute [-simp] splice
attribute [local simp] zma7 MsD VD
theorem run143 (p:Pg) (s:Ra) (x k:Nat) (h0:k=0→x<p.vs.length) (h1:k≠0→x<s.ms.length∧k-1<(gt2 s.ms x).length) (hk:k<1000000000):K 143 [.dat (PD p),.dat (RaD s),.dat (N x),.dat (N k)] []=some (.dat (N (atV p s x k)),[]):=ce rfl (by
 cases k with
 |zero=>
  have hx:=List.getElem?_eq_getElem (h0 rfl);obtain⟨x2,x3,x4⟩:=zca7 hx;generalize p.vs[x]'(h0 rfl)=v at *
  obtain⟨nm,v⟩:=v;simp[hx,x2,x3,x4,atV]
 |succ k=>
  obtain⟨h2,h3⟩:=h1 (by omega);have hx:=List.getElem?_eq_getElem h2;rw[zxd7 hx]at h3;have hg:=zxd7 hx;obtain⟨x2,x3,x4⟩:=zca7 hx;generalize s.ms[x]=l at *
  have hm:=List.getElem?_eq_getElem h3;obtain⟨m2,m3,m4⟩:=zca7 hm;simp only[Nat.add_sub_cancel]at hm m2 m3 m4 h3;generalize l[k]=m at *
  have e:((k+1:Nat):Int)-1=k:=by omega
  have ix:Ix k:=by unfold Ix;omega
  have e0:¬(k:Int)+1=0:=by omega
  have hw:IntKind.wrap .i64 (k:Int)=k:=wrap_i64 (by omega) (by omega);obtain⟨ev,vl,vw⟩:=m;simp[hx,x2,x3,x4,hm,m2,m3,m4,atV,hg,e0,hw])
theorem run144 (s:Ra) (x k:Nat) (hx:x<s.ms.length) (hl:(gt2 s.ms x).length<1000000000) (hm:∀m∈gt2 s.ms x,0≤m.ev∧m.ev<s.ev.length) (hk:k<1000000000):K 144 [.dat (RaD s),.dat (N x),.dat (N k)] []=some (.dat (.bool (updV s x k)),[]):=ce rfl (by
 have hx1:=List.getElem?_eq_getElem hx;have hg:=zxd7 hx1;obtain⟨x2,x3,x4⟩:=zca7 hx1;rw[hg]at hl hm;generalize s.ms[x]=l at *
 cases k with
 |zero=>simp[updV]
 |succ k=>
  have h1:(1:Int)≤(k:Int)+1:=by omega
  have hw:IntKind.wrap .i64 (k:Int)=k:=wrap_i64 (by omega) (by omega);by_cases h2:k<l.length
  ·have h2':(k:Int)+1≤l.length:=by omega
   have hmm:=List.getElem?_eq_getElem h2;have hb:=hm _ (List.getElem_mem h2);obtain⟨m2,m3,m4⟩:=zca7 hmm;generalize l[k]=m at *
   obtain⟨en,hen⟩:=Int.eq_ofNat_of_zero_le hb.1;have he2:en<s.ev.length:=by omega
   have he:=List.getElem?_eq_getElem he2;obtain⟨e2,e3,e4⟩:=zca7 he;generalize s.ev[en]=e at *
   obtain⟨ev,vl,vw⟩:=m;dsimp only at hen;subst hen;obtain⟨ag,idx,kind,obj,mux,ent,ord,rd,wr⟩:=e;by_cases h5:kind=5
   ·subst h5;simp[hx1,x2,x3,x4,hmm,m2,m3,m4,updV,hg,h1,h2,h2',hw,he,e2,e3,e4]
   ·simp[hx1,x2,x3,x4,hmm,m2,m3,m4,updV,hg,h1,h2,h2',hw,he,e2,e3,e4,h5]
  ·have h2':¬(k:Int)+1≤l.length:=by omega
   have hmm:l[k]?=none:=List.getElem?_eq_none (by omega);simp[hx1,x2,x3,x4,hmm,updV,hg,h1,h2,h2',hw])
end Go.Am.E

set_option maxRecDepth 10000
set_option maxHeartbeats 4000000
namespace Go.Am.E
open Go.Proofs Go.Ex Go.Rc
theorem run77 (t:Th) (id:Int):K 77 [.dat (TD t),.ref ((0,0),0,0) 0] [.plain (.box [.dat (N id)])]=some (.dat (.bool (decide (t.id=id))),[.plain (.box [.dat (N id)])]):=ce rfl (by simp)
theorem run76 (l:List Th) (id:Int) (hl:l.length<100000000000):K 76 [.dat (.sl (l.map TD)),.fn 77 [.ref ((0,0),0,0) 0]] [.plain (.box [.dat (N id)])]=some (.dat (N (ixo (fun t=>decide (t.id=id)) l 0)),[.plain (.box [.dat (N id)])]):=by
 refine ce rfl ?_;rw[scan_ixo];simp;simp only[zaa7]
 refine (zvb7 (live:=[0,1,7,8]) (drop:=[]) l (ixf fun t=>decide (t.id=id)) (by omega) (fun k=>⟨[(0,.dat (.sl (l.map TD))),(1,.fn 77 [.ref ((0,0),0,0) 0]),(7,.dat (N l.length)),(8,.dat (N k))],[((0,0),.plain (.box [.dat (N id)]))]⟩)
  (fun q=>q.1=.exit 0∧hd [] [] q.2=some ⟨[],[((0,0),.plain (.box [.dat (N id)]))]⟩) (fun i q=>q.1=.ret∧endK [.t 4] false 1 q=some (.dat (N i),[.plain (.box [.dat (N id)])]))
  (fun i y s h1 h2 h3 ix hs=>?_) (fun s hs=>?_) _ (by simp)).mono ?_
 ·have h4:=run77 y id;by_cases c:y.id=id<;>simp[hs,h1,h2,h3,ix,c,ixf,h4,YID]<;>simp[c]at h4<;>simp[h4]
 ·simp[hs]
 ·rintro⟨y,s⟩ hq;cases c:scan (ixf fun t:Th=>decide (t.id=id)) l 0<;>rw[c]at hq<;>obtain⟨rfl,hq⟩:=hq<;>simp[hq]
theorem ixo_fnd (id:Int):∀(l:List Th) (k:Nat),ixo (fun t=>decide (t.id=id)) l k=match fndT l id with
  |some i=>((k+i:Nat):Int)
  |none => -1
 |[],k=>rfl
 |t::r,k=>by
  have ih:=ixo_fnd id r (k+1);by_cases c:t.id=id
  ·simp[ixo,fndT,c]
  ·simp only[ixo,fndT,c,decide_false,if_false,Bool.false_eq_true,ih];cases fndT r id with
   |none=>rfl
   |some i=>simp only[Option.map_some];congr 1;omega
def fndP (l:List Th) (id:Int):AVal:=match fndT l id with
 |some i=>.tup [.dat (N i),.dat (.bool true)]
 |none=>.tup [.dat (N 0),.dat (.bool false)]
theorem run36 (l:List Th) (id:Int) (hl:l.length<100000000000):K 36 [.dat (.sl (l.map TD)),.dat (N id)] []=some (fndP l id,[]):=by
 have h1:=run76 l id hl;rw[ixo_fnd]at h1;unfold fndP;cases c:fndT l id with
 |none=>
  simp only[c]at h1;exact ce rfl (by simp[h1])
 |some i=>
  simp only[c]at h1;have h2:(0:Int)≤i:=by omega
  have h3:¬(i:Int)<0:=by omega
  exact ce rfl (by simp[h1])
structure InP (p:Pg) (t:Th):Prop where
 f0:0≤t.fn
 f1:t.fn<p.fs.length
 p0:0≤t.pc
theorem codeT_get {p:Pg} {t:Th} (h:InP p t):∃F,p.fs[t.fn.toNat]?=some F∧(∀h:t.fn.toNat<p.fs.length,p.fs[t.fn.toNat]=F)∧codeT p t=F.2:=by
 obtain⟨h1,h2,h3⟩:=h;obtain⟨F,g1,g2⟩:=zad7 p.fs (i:=t.fn.toNat) (by omega);exact⟨F,g1,g2,by simp[codeT,g1]⟩
abbrev ID0:Dat:=.agg [N 0,N 0,N 0,N 0,N 0,N 0,N 0,N 0]
def insP:Option In→AVal
 |some i=>.tup [.dat (ID i),.dat (.bool true)]
 |none=>.tup [.dat ID0,.dat (.bool false)]
theorem run91 (p:Pg) (t:Th) (h:InP p t):K 91 [.dat (PD p),.dat (TD t)] []=some (insP (insT p t),[]):=by
 obtain⟨F,g1,g2,g3⟩:=codeT_get h;obtain⟨h1,h2,h3⟩:=h;obtain⟨n,c⟩:=F;unfold insT;rw[g3];refine ce rfl ?_;simp only at *
 have c1':t.fn.toNat<p.fs.length:=by omega
 by_cases c1:(c.length:Int)≤t.pc
 ·have c2:c[t.pc.toNat]?=none:=List.getElem?_eq_none (by omega);simp[h1,h2,h3,g1,g2,c1,c2,insP,FD,c1']
 ·obtain⟨x,x1,x2⟩:=zad7 c (i:=t.pc.toNat) (by omega);have c3:t.pc.toNat<c.length:=by omega
  have c4:t.pc<c.length:=by omega
  simp[h1,h2,h3,g1,g2,c1,c3,c4,x1,x2,insP,FD,c1']
theorem run212 (l:List Int) (hl:l.length<100000000000):K 212 [.dat (Ns l)] []=some (.dat (.bool (incr l)),[]):=by
 refine ce rfl ?_;simp;simp only[zaa7]
 refine (ev_for (live:=[0,3]) (drop:=[]) (l.length-1) (fun d=>⟨[(0,.dat (Ns l)),(3,.dat (N ((d+1:Nat):Int)))],[]⟩)
   (fun d q=>if incr (l.drop d)=true then q.1=.exit 0∧hd [] [] q.2=some ⟨[],[]⟩ else q.1=.ret∧endK [.t 2] false 0 q=some (.dat (.bool false),[]))
   (fun d s hd' hs=>?_) (fun s hs=>?_) (l.length-1) 0 _ (by omega) (by simp)).mono ?_
 ·obtain⟨a,a1,a2⟩:=zad7 l (i:=d) (by omega);obtain⟨b,b1,b2⟩:=zad7 l (i:=d+1) (by omega);have ix:Ix (d+1):=by unfold Ix;omega
  have ix':Ix d:=by unfold Ix;omega
  have h1:(d:Int)+1<l.length:=by omega
  have w:IntKind.wrap .i64 (d:Int)=d:=wrap_i64 (by omega) (by omega);have h2:(d:Int)<l.length:=by omega
  have wS:IntKind.wrap .i64 ((d:Int)+1+1)=d+1+1:=wrap_i64 (by omega) (by omega);have e:incr (l.drop d)=(decide (a<b)&&incr (l.drop (d+1))):=by rw[zxb7 a1,zxb7 b1];rfl
  by_cases c:a<b
  ·have c':¬b≤a:=by omega
   simp only[c,decide_true,Bool.true_and]at e;simp[hs,h1,h2,a1,b1,a2,b2,w,wS,c,c',e]
   try (intro a b h;rw[e];exact h)
  ·have c':b≤a:=by omega
   simp[hs,h1,h2,a1,b1,a2,b2,w,c,c',e]
 ·have h1:¬((l.length-1:Nat):Int)+1<l.length:=by omega
  have e:incr (l.drop (l.length-1))=true:=by
   have:(l.drop (l.length-1)).length≤1:=by simp;omega
   match h:l.drop (l.length-1),this with
   |[],_=>rfl
   |[a],_=>rfl
  simp[hs,h1,e]
 ·rintro⟨y,s⟩ hq;simp only[List.drop_zero]at hq;split at hq
  ·rename_i h;obtain⟨rfl,hq⟩:=hq;simp[hq,h]
  ·rename_i h;obtain⟨rfl,hq⟩:=hq;simp[hq,h]
end Go.Am.E

set_option maxRecDepth 10000
set_option maxHeartbeats 4000000
namespace Go.Am.E
open Go.Proofs Go.Ex Go.Rc
abbrev X323 (p:Pg) (t:Th):zsa7:=[((4,0),.plain (.box ((PDl p).map AVal.dat))),((6,0),.plain (.box (TDc t)))]
abbrev E323 (bd d:Int):Env:=[(1,.dat (N bd)),(3,.ref ((4,0),0,0) 0),(5,.ref ((6,0),0,0) 0),(7,.dat (N d))]
theorem w32_okV (n:Int):(w32 n=n)=(okV n=true):=by rw[okV_iff,w32_val]
def rgX (i:Nat) (n:Int):Option Unit:=if okV n=true then none else some ()
theorem RLc_g (t:Th) {j:Nat} (h:j<(RLc t).length):(RLc t)[j]=.dat (N (t.rg j)):=by
 have h8:j<8:=by simpa using h
 have:=RLc_get t j;rw[RL_get t h8,List.getElem?_eq_getElem h]at this;exact Option.some.inj this
theorem loop170_0 (p:Pg) (t:Th) (bd d:Int) (s:St) (hs:hd [1,3,5,7,51,52] [] s=some ⟨E323 bd d++[(51,.agg (RLc t)),(52,.dat (N 0))],X323 p t⟩):
  Ev (zga7 (exec K l170_0) s) (oQ (fun q=>q.1=.exit 0∧hd [1,3,5,7] [] q.2=some ⟨E323 bd d,X323 p t⟩) (fun _ q=>q.1=.ret∧endK [.t 6] false 0 q=some (.dat (.bool false),[])) (scan rgX ((List.range 8).map t.rg) 0)):=by
 refine zvb7 (live:=[1,3,5,7,51,52]) (drop:=[]) ((List.range 8).map t.rg) rgX (by simp) (fun k=>⟨E323 bd d++[(51,.agg (RLc t)),(52,.dat (N k))],X323 p t⟩) _ _
  (fun i y s h1 h2 h3 ix hs=>?_) (fun s hs=>?_) s hs
 ·have h4:=run100 y;have h5:i<8:=by simp at h3;omega
  have h6:(i:Int)<8:=by omega
  have h7:t.rg i=y:=by rw[List.getElem?_map,List.getElem?_range h5]at h1;exact Option.some.inj h1
  have h8:=RL_get t h5;rw[h7]at h8;have h9:∀h:i<(RLc t).length,(RLc t)[i]=.dat (N y):=fun h=>by rw[RLc_g,h7]
  cases c:okV y
  ·have c':=w32_okV y;simp only[c]at c';simp[hs,h6,h5,h8,h9,ix,h4,rgX,c,c']
  ·have c':w32 y=y:=by rw[w32_okV,c]
   rw[c']at h4;simp[hs,h6,h5,h8,h9,ix,h4,rgX,c,c']
 ·simp[hs]
theorem scan_all {α:Type} (f:α→Bool) (l:List α):∀k:Nat,scan (fun _ x=>if f x=true then none else some ()) l k=if l.all f=true then none else some ():=by
 induction l with
 |nil=>intro k;rfl
 |cons a r ih=>intro k;cases c:f a<;>simp[scan,c,ih]
abbrev E323b:Env:=[(3,.ref ((4,0),0,0) 0),(5,.ref ((6,0),0,0) 0)]
def okH (p:Pg) (m:Int):Bool:=decide (0≤m∧m<p.ms.length)
theorem loop170_1 (p:Pg) (t:Th) (hl:t.hd.length<100000000000) (s:St) (hs:hd [3,5,95,96,97] [] s=some ⟨E323b++[(95,.dat (Ns t.hd)),(96,.dat (N t.hd.length)),(97,.dat (N 0))],X323 p t⟩):
  Ev (zga7 (exec K l170_1) s) (oQ (fun q=>q.1=.exit 2∧hd [3,5] [] q.2=some ⟨E323b,X323 p t⟩) (fun _ q=>q.1=.ret∧endK [.t 6] false 0 q=some (.dat (.bool false),[])) (if t.hd.all (okH p)=true then none else some ())):=by
 rw[←scan_all (okH p) t.hd 0]
 refine zvb7 (live:=[3,5,95,96,97]) (drop:=[]) t.hd _ (by omega) (fun k=>⟨E323b++[(95,.dat (Ns t.hd)),(96,.dat (N t.hd.length)),(97,.dat (N k))],X323 p t⟩) _ _
  (fun i y s h1 h2 h3 ix hs=>?_) (fun s hs=>?_) s hs
 ·by_cases c1:y<0
  ·have c:okH p y=false:=by simp[okH];omega
   simp[hs,h1,h2,h3,ix,c1,c]
  ·by_cases c2:(p.ms.length:Int)≤y
   ·have c:okH p y=false:=by simp[okH];omega
    simp[hs,h1,h2,h3,ix,c1,c2,c]
   ·have c:okH p y=true:=by simp[okH];omega
    simp[hs,h1,h2,h3,ix,c1,c2,c]
 ·simp[hs]
structure Tb (t:Th):Prop where
 id:t.id<100000000000000
 hd:t.hd.length<1000000000
theorem run170 (p:Pg) (bd:Int) (t:Th) (hb:Tb t):K 170 [.dat (PD p),.dat (N bd),.dat (TD t)] []=some (.dat (.bool (frmT p bd t)),[]):=by
 obtain⟨hid,hhd⟩:=hb;have h1:=run125 t.id hid;unfold depZ at h1;refine ce rfl ?_;cases c0:dep t.id with
 |none=>
  rw[c0]at h1;simp[h1,frmT,c0]
 |some d=>
  rw[c0]at h1;by_cases c1:t.fn<0
  ·have e:frmT p bd t=false:=by simp only[frmT,c0,show decide (0≤t.fn∧t.fn<p.fs.length)=false by simp;omega,Bool.false_and]
   simp[h1,c1,e]
  ·by_cases c2:(p.fs.length:Int)≤t.fn
   ·have e:frmT p bd t=false:=by simp only[frmT,c0,show decide (0≤t.fn∧t.fn<p.fs.length)=false by simp;omega,Bool.false_and]
    simp[h1,c1,c2,e]
   ·by_cases c3:t.pc<0
    ·have e:frmT p bd t=false:=by simp only[frmT,c0,show decide (0≤t.pc∧t.pc≤((codeT p t).length:Int))=false by simp;omega,Bool.false_and,Bool.and_false]
     simp[h1,c1,c2,c3,e]
    ·have hin:InP p t:=⟨by omega,by omega,by omega⟩;have h2:=run91 p t hin;obtain⟨F,g1,g2,g3⟩:=codeT_get hin;have c1':t.fn.toNat<p.fs.length:=by omega
     have c2':t.fn<p.fs.length:=by omega
     have c3':0≤t.fn:=by omega
     obtain⟨n,code⟩:=F;simp only at g3;by_cases c4:(code.length:Int)<t.pc
     ·have e:frmT p bd t=false:=by simp only[frmT,c0,g3,show decide (0≤t.pc∧t.pc≤(code.length:Int))=false by simp;omega,Bool.false_and,Bool.and_false]
      simp[h1,c1,c2,c3,c4,e,c1',c2',c3',g1,g2,FD]
     ·simp[h1,c1,c2,c3,c4,c1',c2',c3',g1,g2,FD];simp only[zaa7];refine (loop170_0 p t bd d _ (by simp[h1,c1,c2,c3,c4,c1',c2',c3',g1,g2,FD])).mono ?_;rintro⟨y,s⟩ hq;rw[show (rgX:Nat→Int→Option Unit)=fun _ n=>if okV n=true then none else some () from rfl,scan_all]at hq
      have e:frmT p bd t=((List.range 8).all (fun j=>okV (t.rg j))&&decide (0≤t.st∧t.st≤bd)&&decide (0≤t.ch∧t.ch≤7)&&(decide (d≠4)||decide (t.ch=0))&&incr t.hd &&
        t.hd.all (okH p)&&(decide (t.ph=0)||(decide (t.ph=1∨t.ph=2)&&match insT p t with
        |none=>false
        |some i=>decide (i.op=18)&&!t.hd.contains i.n))):=by
       simp only[frmT,c0,g3,show decide (0≤t.pc∧t.pc≤(code.length:Int))=true by simp;omega,show decide (0≤t.fn∧t.fn<p.fs.length)=true by simp;omega,Bool.true_and];rfl
      rw[List.all_map,show (okV∘t.rg)=fun j=>okV (t.rg j) from rfl]at hq;generalize (List.range 8).all (fun j=>okV (t.rg j))=R at e hq;cases R
      ·simp at hq;obtain⟨rfl,hq⟩:=hq;simp[hq,e]
      ·simp only[if_true,oQ_n,Bool.true_and]at hq e;obtain⟨rfl,hq⟩:=hq;have h3:=run212 t.hd (by omega);have cd:((d:Int)=4)=(d=4):=by rw[eq_iff_iff];omega
       by_cases c5:t.st<0
       ·simp[hq,e,c5,show ¬(0≤t.st) by omega]
       ·by_cases c6:bd<t.st
        ·simp[hq,e,c5,c6,show ¬(t.st≤bd) by omega]
        ·by_cases c7:t.ch<0
         ·simp[hq,e,c5,c6,c7,show ¬(0≤t.ch) by omega]
         ·by_cases c8:7<t.ch
          ·simp[hq,e,c5,c6,c7,c8,show ¬(t.ch≤7) by omega]
          ·simp only[show decide (0≤t.st∧t.st≤bd)=true by simp;omega,show decide (0≤t.ch∧t.ch≤7)=true by simp;omega,Bool.true_and]at e;have c9:(d=4∧¬t.ch=0)∨(d=4∧t.ch=0)∨¬d=4:=by omega
           cases c11:incr t.hd
           ·rw[c11]at h3 e;rcases c9 with⟨c9,c10⟩|⟨c9,c10⟩|c9
            ·simp[hq,e,c5,c6,c7,c8,c9,c10,cd]
            ·simp[hq,e,c5,c6,c7,c8,c9,c10,cd,h3]
            ·simp[hq,e,c5,c6,c7,c8,c9,cd,h3]
           ·rw[c11]at h3 e;rcases c9 with⟨c9,c10⟩|c9
            ·simp[hq,e,c5,c6,c7,c8,c9,c10,cd]
            ·have e2:(decide (d≠4)||decide (t.ch=0))=true:=by simp;omega
             simp only[e2,Bool.true_and]at e
             rcases c9 with⟨c9,c10⟩|c9<;>(first|simp[hq,c5,c6,c7,c8,c9,c10,cd,h3]|simp[hq,c5,c6,c7,c8,c9,cd,h3])<;>simp only[zaa7] <;>
              refine (loop170_1 p t (by omega) _ (by first|simp[hq,c5,c6,c7,c8,c9,c10,cd,h3]|simp[hq,c5,c6,c7,c8,c9,cd,h3])).mono ?_ <;>
              (rintro⟨y,s⟩ hq2
               cases c12:t.hd.all (okH p)<;>rw[c12]at hq2 e
               ·simp only[Bool.false_eq_true,if_false,oQ_s]at hq2;obtain⟨rfl,hq2⟩:=hq2;simp[hq2,e]
               ·simp only[if_true,oQ_n,Bool.true_and]at hq2 e;obtain⟨rfl,hq2⟩:=hq2;by_cases c13:t.ph=0
                ·simp[hq2,e,c13]
                ·rcases hi:insT p t with _|i<;>rw[hi]at h2 e<;>simp only[insP]at h2
                 ·by_cases c14:t.ph=1
                  ·simp[hq2,e,c13,c14,h2]
                  ·by_cases c15:t.ph=2<;>simp[hq2,e,c13,c14,c15,h2]
                 ·have h4:=run224 t.hd i.n (by omega);by_cases c16:i.op=18<;>by_cases c14:t.ph=1<;>by_cases c15:t.ph=2<;>simp[hq2,e,c13,c14,c15,c16,h2,h4])
end Go.Am.E

set_option maxRecDepth 10000
set_option maxHeartbeats 4000000
namespace Go.Am.E
open Go.Proofs Go.Ex Go.Rc
attribute [-simp] splice
attribute [local simp] zma7 MsD
def mgE (s:Ra) (x:Nat) (i:Nat) (m:Msg):Bool:=decide (0≤m.ev∧m.ev<s.ev.length)&&decide ((gt2 s.mo x)[i]?=some m.ev)&&!((gt2 s.mo x).take i).contains m.ev &&
  (match s.ev[m.ev.toNat]? with
  |none=>false
  |some e=>(decide (e.kind=2)||decide (e.kind=5))&&decide (e.obj=x)&&decide (e.wr=m.val)&&okV m.val)
theorem gdM_eq (s:Ra) (x:Nat):gdM s x=(decide ((gt2 s.ms x).length=(gt2 s.mo x).length)&&alI (mgE s x) (gt2 s.ms x) 0):=rfl
theorem run74 (s:Ra) (x:Nat) (hx:x<s.ms.length) (hx2:x<s.mo.length) (hl:(gt2 s.ms x).length<1000000000) (hl2:(gt2 s.mo x).length<1000000000):K 74 [.dat (RaD s),.dat (N x)] []=some (.dat (.bool (gdM s x)),[]):=ce rfl (by
 have hx1:=List.getElem?_eq_getElem hx;have hg:=zxd7 hx1;obtain⟨x2,x3,x4⟩:=zca7 hx1;have hy1:=List.getElem?_eq_getElem hx2;have hgy:=zxd7 hy1;obtain⟨y2,y3,y4⟩:=zca7 hy1;rw[gdM_eq,hg,hgy];rw[hg]at hl;rw[hgy]at hl2
 have hmg:∀i m,mgE s x i m=(decide (0≤m.ev∧m.ev<s.ev.length)&&decide ((s.mo[x])[i]?=some m.ev)&&!((s.mo[x]).take i).contains m.ev &&
  (match s.ev[m.ev.toNat]? with
  |none=>false
  |some e=>(decide (e.kind=2)||decide (e.kind=5))&&decide (e.obj=x)&&decide (e.wr=m.val)&&okV m.val)):=fun i m=>by rw[mgE,hgy]
 generalize s.ms[x]=l at *
 generalize s.mo[x]=o at *
 by_cases h0:l.length=o.length;rotate_left
 ·have h0':¬(l.length:Int)=o.length:=by omega
  simp[hx1,x2,x3,x4,hy1,y2,y3,y4,h0,h0']
 simp[hx1,x2,x3,x4,hy1,y2,y3,y4,h0];simp only[zaa7]
 refine (zhb7 (live:=[1,2,26,27,28]) (drop:=[2,26]) l (by omega) (fun k=>⟨[(1,.dat (N x)),(2,.ref ((3,0),0,0) 0),(26,.dat (.sl (l.map MsD))),(27,.dat (N l.length)),(28,.dat (N k))],[((3,0),.plain (.box ((RaDl s).map AVal.dat)))]⟩)
  (fun k=>bQ (fun q=>q.1=.exit 0∧∃os,hd [] [] q.2=some ⟨[],os⟩) (RQ 4) (alI (mgE s x) (l.drop k) k)) (fun i m st g1 g2 g3 ix hs=>?_) (fun st hs=>?_) _ (by simp[h0])).mono ?_
 ·have hdr:=alI_drop (f:=mgE s x) g1;have hi:=(zca7 g1).2.2;have hio:i<o.length:=by omega
  have hio2:(i:Int)<o.length:=by omega
  have hio3:(i:Int)≤o.length:=by omega
  have hio4:i≤o.length:=by omega
  have ho:=List.getElem?_eq_getElem hio;obtain⟨o2,o3,o4⟩:=zca7 ho;have hev:=hmg i m;have h42:=run42 (o.take i) m.ev (by simp;omega);have hmp:((o.take i).map N)=(o.map N).take i:=by rw[List.map_take]
  have h100:=run100 m.val;have hwv:=w32_okV m.val;generalize o[i]=oi at *
  generalize mgE s x i m=r at *
  obtain⟨ev,vl,vw⟩:=m;dsimp only at hev h42 h100 hwv;rw[ho]at hev;simp only[Ns,List.map_take]at h42;by_cases c1:ev<0
  ·have c1':¬0≤ev:=by omega
   simp[c1']at hev;simp[hs,hdr,hev,g1,g2,g3,ix,c1]
  ·obtain⟨en,rfl⟩:=Int.eq_ofNat_of_zero_le (show 0≤ev by omega);by_cases c2:(s.ev.length:Int)≤en
   ·have c2':¬(en:Int)<s.ev.length:=by omega
    simp[c2']at hev;simp[hs,hdr,hev,g1,g2,g3,ix,c1,c2]
   ·have c2':(en:Int)<s.ev.length:=by omega
    by_cases c3:(en:Int)=oi
    ·subst c3;cases c4:((o.take i).contains (en:Int))
     ·rw[c4]at h42 hev;have hen:en<s.ev.length:=by omega
      have he:=List.getElem?_eq_getElem hen;obtain⟨e2,e3,e4⟩:=zca7 he;generalize s.ev[en]=e at *
      simp only[Int.toNat_natCast,he]at hev;obtain⟨ag,idx,kind,obj,mux,ent,ord,rd,wr⟩:=e;dsimp only at hev
      have hk:(decide (kind=2)||decide (kind=5))=true∨(kind≠2∧kind≠5):=by
       by_cases k2:kind=2
       ·simp[k2]
       ·by_cases k5:kind=5
        ·simp[k5]
        ·exact .inr ⟨k2,k5⟩
      rcases hk with hk|⟨k2,k5⟩
      ·rw[hk]at hev;have hkk:kind=2∨kind=5:=by simpa using hk
       by_cases c5:obj=x
       ·by_cases c6:wr=vl
        ·subst c5 c6;cases c7:okV wr
         ·rw[c7]at hev hwv;have hwv:¬w32 wr=wr:=by simpa using hwv
          simp[c2']at hev;rcases hkk with rfl|rfl <;>
          simp[hs,hdr,hev,g1,g2,g3,ix,c1,c2,c2',hy1,y2,y3,y4,ho,o2,o3,o4,hio,hio2,hio3,hio4,h42,he,e2,e3,e4,h100,hwv,YID,pairK,zyc7,chgOf,slim,sameAt,TObj.same,Obj.same,sameAll,AVal.same,Dat.eqv,meets,updT]
         ·rw[c7]at hev hwv;have hwv:w32 wr=wr:=by simpa using hwv
          simp[c2']at hev;rcases hkk with rfl|rfl <;>
          simp[hs,hdr,hev,g1,g2,g3,ix,c1,c2,c2',hy1,y2,y3,y4,ho,o2,o3,o4,hio,hio2,hio3,hio4,h42,he,e2,e3,e4,h100,hwv,YID,pairK,zyc7,chgOf,slim,sameAt,TObj.same,Obj.same,sameAll,AVal.same,Dat.eqv,meets,updT]
        ·subst c5;simp[c6]at hev;rcases hkk with rfl|rfl <;>
         simp[hs,hdr,hev,g1,g2,g3,ix,c1,c2,c2',hy1,y2,y3,y4,ho,o2,o3,o4,hio,hio2,hio3,hio4,h42,he,e2,e3,e4,c6,YID,pairK,zyc7,chgOf,slim,sameAt,TObj.same,Obj.same,sameAll,AVal.same,Dat.eqv,meets,updT]
       ·simp[c5]at hev;rcases hkk with rfl|rfl <;>
        simp[hs,hdr,hev,g1,g2,g3,ix,c1,c2,c2',hy1,y2,y3,y4,ho,o2,o3,o4,hio,hio2,hio3,hio4,h42,he,e2,e3,e4,c5,YID,pairK,zyc7,chgOf,slim,sameAt,TObj.same,Obj.same,sameAll,AVal.same,Dat.eqv,meets,updT]
      ·simp[k2,k5]at hev;simp[hs,hdr,hev,g1,g2,g3,ix,c1,c2,c2',hy1,y2,y3,y4,ho,o2,o3,o4,hio,hio2,hio3,hio4,h42,he,e2,e3,e4,k2,k5,YID,pairK,zyc7,chgOf,slim,sameAt,TObj.same,Obj.same,sameAll,AVal.same,Dat.eqv,meets,updT]
     ·rw[c4]at h42 hev;simp at hev;simp[hs,hdr,hev,g1,g2,g3,ix,c1,c2,c2',hy1,y2,y3,y4,ho,o2,o3,o4,hio,hio2,hio3,hio4,h42]
    ·have c3':¬oi=(en:Int):=fun e=>c3 e.symm
     simp[c3']at hev;simp[hs,hdr,hev,g1,g2,g3,ix,c1,c2,c2',c3,hy1,y2,y3,y4,ho,o2,o3,o4,hio,hio2,hio3,hio4]
 ·simp[hs,alI]
 ·rw[List.drop_zero];generalize alI (mgE s x) l 0=B;rintro⟨y,st⟩ hq;cases B with
  |false=>
   obtain⟨rfl,hq⟩:=hq;simp[hq]
  |true=>
   obtain⟨rfl,os,hq⟩:=hq;dsimp only at hq;simp[hq])
end Go.Am.E

set_option maxRecDepth 10000
set_option maxHeartbeats 4000000
namespace Go.Am.E
open Go.Proofs Go.Ex Go.Rc
attribute [-simp] splice
attribute [local simp] zma7
theorem run175 (t:Th) (s f:Int):K 175 [.dat (TD t),.dat (N s),.dat (N f)] []=some (.dat (TD (endT t s f)),[]):=ce rfl (by simp[endT])
theorem run172 (t:Th) (i:In) (hb:Tb t):K 172 [.dat (TD t),.dat (ID i)] []=some (.dat (N (obs t i)),[]):=by
 obtain⟨hid,hhd⟩:=hb;have h1:=run163 t hid;have h2:=run224 t.hd i.n (by omega);have h3:=run224 t.hd i.o (by omega);refine ce rfl ?_;unfold obs;by_cases c1:t.ph=0
 ·by_cases c2:i.op=18
  ·cases c3:t.hd.contains i.n<;>rw[c3]at h2<;>simp[c1,c2,h2]
  ·by_cases c4:i.op=16
   ·cases c3:t.hd.contains i.o<;>rw[c3]at h3<;>simp[c1,c2,c4,h3]
   ·by_cases c5:i.op=21
    ·rcases c3:chd t with _|c<;>simp only[chdP,c3]at h1<;>simp[c1,c2,c4,c5,h1]
    ·simp[c1,c2,c4,c5]
 ·simp[c1]
theorem w32_mod {a b:Int} (h:a % 4294967296=b % 4294967296):w32 a=w32 b:=by unfold w32;rw[h]
theorem bit64 (f:Nat→Nat→Nat) (hf:∀a b:Nat,f a b % 2 ^ 32=f (a % 2 ^ 32) (b % 2 ^ 32)) (x y:Int) (n:Nat) (hn:n=f (BitVec.ofInt 64 x).toNat (BitVec.ofInt 64 y).toNat):
  w32 (IntKind.wrap .i64 (n:Int))=bitw f x y:=by
 unfold bitw
 have h1:IntKind.wrap .i64 (n:Int) % 4294967296=(n:Int) % 4294967296:=by
  have:IntKind.wrap .i64 (n:Int)=if (n:Int) % 2 ^ 64≥2 ^ 63 then (n:Int) % 2 ^ 64-2 ^ 64 else (n:Int) % 2 ^ 64:=by simp[IntKind.wrap,IntKind.bits,IntKind.signed]
  rw[this];split<;>omega
 refine w32_mod (h1.trans ?_);have e1:(BitVec.ofInt 64 x).toNat % 2 ^ 32=(x % 4294967296).toNat:=by rw[BitVec.toNat_ofInt];omega
 have e2:(BitVec.ofInt 64 y).toNat % 2 ^ 32=(y % 4294967296).toNat:=by rw[BitVec.toNat_ofInt];omega
 have h2:=hf (BitVec.ofInt 64 x).toNat (BitVec.ofInt 64 y).toNat;rw[e1,e2,←hn]at h2;have h3:=hf (x % 4294967296).toNat (y % 4294967296).toNat;rw[Nat.mod_eq_of_lt (by omega),Nat.mod_eq_of_lt (by omega)]at h3;omega
theorem run142 (f a b:Int):K 142 [.dat (N f),.dat (N a),.dat (N b)] []=some (.tup [.dat (N (Go.Ex.appF f a b)),.dat (N (appE f))],[]):=by
 refine ce rfl ?_;have ha:=run100 a;have hb:=run100 b;unfold Go.Ex.appF;have va:=w32_isVal a;have vb:=w32_isVal b;generalize w32 a=x at *
 generalize w32 b=y at *
 by_cases h:1≤f∧f≤10
 ·have hf:f=1∨f=2∨f=3∨f=4∨f=5∨f=6∨f=7∨f=8∨f=9∨f=10:=by omega
  rcases hf with rfl|rfl|rfl|rfl|rfl|rfl|rfl|rfl|rfl|rfl
  ·have w:IntKind.wrap .i64 (x+y)=x+y:=by unfold isVal at *;exact wrap_i64 (by omega) (by omega)
   simp[ha,hb,run100,appE,w]
  ·have w:IntKind.wrap .i64 (x-y)=x-y:=by unfold isVal at *;exact wrap_i64 (by omega) (by omega)
   simp[ha,hb,run100,appE,w]
  ·have w:IntKind.wrap .i64 (x*y)=x*y:=by
    have h1:x.natAbs≤2147483648:=by unfold isVal at va;omega
    have h2:y.natAbs≤2147483648:=by unfold isVal at vb;omega
    have h3:=Nat.mul_le_mul h1 h2;rw[←Int.natAbs_mul]at h3;exact wrap_i64_all (by omega) (by omega)
   simp[ha,hb,run100,appE,w]
  ·have w:=bit64 (· &&& ·) (fun a b=>Nat.and_mod_two_pow) x y _ (BitVec.toNat_and _ _);simp at w;have iA:intE .and .i64 x y=some (.dat (.int .i64 (IntKind.wrap .i64 ((BitVec.ofInt 64 x &&& BitVec.ofInt 64 y).toNat)))):=rfl;simp[ha,hb,run100,appE,iA,w]
  ·have w:=bit64 (· ||| ·) (fun a b=>Nat.or_mod_two_pow) x y _ (BitVec.toNat_or _ _);simp at w;have iA:intE .or .i64 x y=some (.dat (.int .i64 (IntKind.wrap .i64 ((BitVec.ofInt 64 x ||| BitVec.ofInt 64 y).toNat)))):=rfl;simp[ha,hb,run100,appE,iA,w]
  ·have w:=bit64 (· ^^^ ·) (fun a b=>Nat.xor_mod_two_pow) x y _ (BitVec.toNat_xor _ _);simp at w;have iA:intE .xor .i64 x y=some (.dat (.int .i64 (IntKind.wrap .i64 ((BitVec.ofInt 64 x ^^^ BitVec.ofInt 64 y).toNat)))):=rfl;simp[ha,hb,run100,appE,iA,w]
  ·simp[ha,hb,run214,appE]
  ·simp[ha,hb,run214,appE]
  ·simp[ha,hb,run214,appE]
  ·simp[ha,hb,run214,appE]
 ·have hf:f≠1∧f≠2∧f≠3∧f≠4∧f≠5∧f≠6∧f≠7∧f≠8∧f≠9∧f≠10:=by omega
  simp[ha,hb,hf,appE,h]
end Go.Am.E

set_option maxRecDepth 10000
set_option maxHeartbeats 4000000
namespace Go.Am.E
open Go.Proofs Go.Ex Go.Rc
attribute [-simp] splice
attribute [local simp] zma7
def cv {α:Type} (l:List α):Nat:=min 1 l.length
theorem ce_split {f:FuncId} {fn:AFun} (hf:tblE.fn f=some fn) (hs:fn.split=some 0) {l:List Dat} {r:AVal×List TObj} (h0:l=[]→Ev (zed7 K fn [.emp true] []) (·=r)∧Ev (zed7 K fn [.emp false] []) (·=r))
  (h1:∀a m,l=a::m→Ev (zed7 K fn [.dat (.sl (a::m))] []) (·=r)) (hne:f≠YID:=by decide):K f [.dat (.sl l)] []=some r:=by
 refine callT_of hf ?_ hne;unfold runS;rw[hs];cases l with
 |nil=>
  obtain⟨g1,g2⟩:=h0 rfl;have g1:=g1.eq;have g2:=g2.eq;simp only[List.getElem?_cons_zero,isEmp,if_true,List.set_cons_zero,g1,g2]
 |cons a m=>
  have g:=(h1 a m rfl).eq;simp only[List.getElem?_cons_zero,isEmp,if_false,g,Bool.false_eq_true]
theorem run174 (l:List Int) (h:l.length<10000000000):K 174 [.dat (Ns l)] []=some (.rsl ((0,0),0,0) (cv l) 1 0 l.length,[.plain (.arr 1 (cv l) false (l.map N))]):=by
 refine ce_split rfl rfl (fun e=>?_) (fun a m e=>?_)
 ·have:l=[]:=by simpa using e
  subst this;simp[cv]
 ·cases l with
  |nil=>cases e
  |cons b l=>
   obtain⟨rfl,rfl⟩:=List.cons.inj e;have h2:(l.length+1)*9≤1099511627776:=by simp at h;omega
   simp[h2,cv]
theorem zjd7 (t:Th) {k:Nat} (h:k<8) (hh:3+k<(TDc t).length):(TDc t)[3+k]=.dat (N (t.rg k)):=by
 have:=TDc_get t (3+k);rw[zqb7 t h,List.getElem?_eq_getElem hh]at this;exact Option.some.inj this
def locP (t:Th) (i:In):AVal:=.tup [.dat (TD (locT t i).1),.dat (.bool (locT t i).2)]
def rgs (i:In):Prop:=(uk i.op 0=true→0≤i.a∧i.a<8)∧(uk i.op 1=true→0≤i.b∧i.b<8)∧(uk i.op 2=true→0≤i.c∧i.c<8)
theorem rg8 {n:Int} (h:0≤n∧n<8):∃k:Nat,n=k∧k<8∧(k:Int)<8∧3+k<17∧3+k≤16:=⟨n.toNat,by omega,by omega,by omega,by omega,by omega⟩
theorem run176 (t:Th) (i:In) (hp:0≤t.pc) (hp2:t.pc<100000000000) (hr:rgs i) (hf:i.op=3→1≤i.f∧i.f≤10):K 176 [.dat (TD t),.dat (ID i)] []=some (locP t i,[]):=by
 obtain⟨r1,r2,r3⟩:=hr;have w:IntKind.wrap .i64 (t.pc+1)=t.pc+1:=wrap_i64 (by omega) (by omega);refine ce rfl ?_;unfold locP locT;rcases opc i.op with h|h|h|h|h|h|h|h|h|h|h|h|h|h|h|h|h|h|h|h|h|h|h
 ·rw[h]at r1;obtain⟨k,hk,k1,k2,k3,k4⟩:=rg8 (r1 rfl);simp[h,w,hk,TDc_sr,setR,k1,k2,k3,k4]
 ·rw[h]at r1 r2;obtain⟨k,hk,k1,k2,k3,k4⟩:=rg8 (r1 rfl);obtain⟨j,hj,j1,j2,j3,j4⟩:=rg8 (r2 rfl);simp[h,w,hk,hj,TDc_sr,setR,k1,k2,k3,k4,j1,j2,j3,j4,zqb7,zjd7,reg]
 ·rw[h]at r1 r2 r3;obtain⟨k,hk,k1,k2,k3,k4⟩:=rg8 (r1 rfl);obtain⟨j,hj,j1,j2,j3,j4⟩:=rg8 (r2 rfl);obtain⟨m,hm,m1,m2,m3,m4⟩:=rg8 (r3 rfl);have e:appE i.f=0:=if_pos (hf h);simp[h,w,hk,hj,hm,TDc_sr,setR,k1,k2,k3,k4,j1,j2,j3,j4,m1,m2,m3,m4,zqb7,zjd7,reg,run142,e]
 ·simp[h]
 ·rw[h]at r2;obtain⟨j,hj,j1,j2,j3,j4⟩:=rg8 (r2 rfl);by_cases c:t.rg j=0
  ·simp[h,w,hj,j1,j2,j3,j4,zqb7,zjd7,reg,c]
  ·simp[h,hj,j1,j2,j3,j4,zqb7,zjd7,reg,c]
 ·rw[h]at r2;obtain⟨j,hj,j1,j2,j3,j4⟩:=rg8 (r2 rfl);by_cases c:t.rg j=0
  ·simp[h,w,hj,j1,j2,j3,j4,zqb7,zjd7,reg,c,run175]
  ·simp[h,w,hj,j1,j2,j3,j4,zqb7,zjd7,reg,c]
 ·simp[h,w,run175]
 all_goals simp[h,w]
end Go.Am.E
