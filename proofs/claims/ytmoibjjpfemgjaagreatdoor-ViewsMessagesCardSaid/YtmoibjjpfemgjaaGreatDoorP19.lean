/- Parts of the proofs of the statement, joined and made short: EK EK2 VK. -/
import Derived.Test.YtmoibjjpfemgjaaGreatDoorP18
import Derived.Test.YtmoibjjpfemgjaaGreatDoorP1
set_option linter.unusedVariables false
set_option linter.unusedSimpArgs false
set_option linter.unusedSectionVars false
namespace Go.Ex
open Go.Am Go.Rc
abbrev N (n:Int):Dat:=.int .i64 n
abbrev S (s:Str):Dat:=.str s
abbrev Ns (l:List Int):Dat:=.sl (l.map N)
def NP (p:Int×Int):Dat:=.agg [N p.1,N p.2]
def VD (v:Str×Int):Dat:=.agg [.str v.1,N v.2]
def IDl (i:In):List Dat:=[N i.op,N i.a,N i.b,N i.c,N i.o,N i.n,N i.f,N i.r]
abbrev ID (i:In):Dat:=.agg (IDl i)
def FD (f:Str×List In):Dat:=.agg [.str f.1,.sl (f.2.map ID)]
abbrev PDl (p:Pg):List Dat:=[.sl (p.vs.map VD),.sl (p.ms.map S),.sl (p.cs.map S),.sl (p.fs.map FD),.sl (p.ts.map NP)]
abbrev PD (p:Pg):Dat:=.agg (PDl p)
def RL (t:Th):List Dat:=(List.range 8).map fun j=>N (t.rg j)
def TDl (t:Th):List Dat:=[N t.id,N t.fn,N t.pc]++RL t++[N t.st,N t.ch,N t.ph,N t.ss,N t.ft,Ns t.hd]
abbrev TD (t:Th):Dat:=.agg (TDl t)
abbrev MDl (m:Me):List Dat:=[Ns m.va,Ns m.ow,.sl (m.qu.map Ns),Ns m.sg]
abbrev MD (m:Me):Dat:=.agg (MDl m)
def BD (b:Bu):Dat:=.agg [N b.t,N b.f,.sl (b.es.map NP)]
abbrev SDl (s:Sa):List Dat:=.sl (s.th.map TD)::MDl s.me++[.sl (s.bu.map BD)]
abbrev SD (s:Sa):Dat:=.agg (SDl s)
abbrev EDl (e:Evt):List Dat:=[N e.ag,N e.idx,N e.kind,N e.obj,N e.mux,N e.ent,N e.ord,N e.rd,N e.wr]
abbrev ED (e:Evt):Dat:=.agg (EDl e)
@[simp] theorem IDl_len (i:In):(IDl i).length=8:=rfl
@[simp] theorem IDl_0 (i:In):(IDl i)[0]?=some (N i.op):=rfl
@[simp] theorem IDl_1 (i:In):(IDl i)[1]?=some (N i.a):=rfl
@[simp] theorem IDl_2 (i:In):(IDl i)[2]?=some (N i.b):=rfl
@[simp] theorem IDl_3 (i:In):(IDl i)[3]?=some (N i.c):=rfl
@[simp] theorem IDl_4 (i:In):(IDl i)[4]?=some (N i.o):=rfl
@[simp] theorem IDl_5 (i:In):(IDl i)[5]?=some (N i.n):=rfl
@[simp] theorem IDl_6 (i:In):(IDl i)[6]?=some (N i.f):=rfl
@[simp] theorem IDl_7 (i:In):(IDl i)[7]?=some (N i.r):=rfl
@[simp] theorem RL_len (t:Th):(RL t).length=8:=by simp[RL]
theorem RL_get (t:Th) {j:Nat} (h:j<8):(RL t)[j]?=some (N (t.rg j)):=by
 unfold RL;rw[List.getElem?_map,List.getElem?_range h];rfl
@[simp] theorem TDl_len (t:Th):(TDl t).length=17:=by simp[TDl]
@[simp] theorem TDl_0 (t:Th):(TDl t)[0]?=some (N t.id):=rfl
@[simp] theorem TDl_1 (t:Th):(TDl t)[1]?=some (N t.fn):=rfl
@[simp] theorem TDl_2 (t:Th):(TDl t)[2]?=some (N t.pc):=rfl
@[simp] theorem TDl_11 (t:Th):(TDl t)[11]?=some (N t.st):=rfl
@[simp] theorem TDl_12 (t:Th):(TDl t)[12]?=some (N t.ch):=rfl
@[simp] theorem TDl_13 (t:Th):(TDl t)[13]?=some (N t.ph):=rfl
@[simp] theorem TDl_14 (t:Th):(TDl t)[14]?=some (N t.ss):=rfl
@[simp] theorem TDl_15 (t:Th):(TDl t)[15]?=some (N t.ft):=rfl
@[simp] theorem TDl_16 (t:Th):(TDl t)[16]?=some (Ns t.hd):=rfl
@[simp] theorem TDl_rg (t:Th):((TDl t).drop 3).take 8=RL t:=rfl
theorem zqb7 (t:Th) {j:Nat} (h:j<8):(TDl t)[3+j]?=some (N (t.rg j)):=by
 unfold TDl;rw[List.getElem?_append_left (by simp;omega),List.getElem?_append_right (by simp)];simpa using RL_get t h
@[simp] theorem wID (i:In):(ID i).width=8:=rfl
@[simp] theorem wFD (f:Str×List In):(FD f).width=2:=rfl
@[simp] theorem wVD (v:Str×Int):(VD v).width=2:=rfl
@[simp] theorem wNP (p:Int×Int):(NP p).width=2:=rfl
@[simp] theorem wTD (t:Th):(TD t).width=17:=TDl_len t
@[simp] theorem wBD (b:Bu):(BD b).width=3:=rfl
end Go.Ex
namespace Go.Ex
open Go.Am Go.Rc
section
variable [Glob]
theorem decLs_dat (T:TLook):∀{l:List Dat},(∀d∈l,d.isAgg=false)→decLsT T (l.map AVal.dat)=some (l,[])
 |[],_=>rfl
 |d::r,h=>by
  have ih:=decLs_dat (updT T []) (l:=r) fun x hx=>h x (by simp[hx])
  simp only[List.map_cons,decLsT,decT,ih,h d (by simp)];simp
theorem ids_dat:∀l:List Dat,AVal.idsL (l.map AVal.dat)=[]
 |[]=>rfl
 |d::r=>by simp[AVal.idsL,AVal.ids,ids_dat r]
theorem ren_dat (f:Am.Id→Am.Id):∀l:List Dat,AVal.renL f (l.map AVal.dat)=l.map AVal.dat
 |[]=>rfl
 |d::r=>by simp[AVal.renL,AVal.ren,ren_dat f r]
def TDc (t:Th):List AVal:=(TDl t).map AVal.dat
theorem TDl_noagg (t:Th):∀d∈TDl t,d.isAgg=false:=by
 intro d hd;simp only[TDl,RL,List.mem_append,List.mem_cons,List.not_mem_nil,or_false,List.mem_map]at hd;rcases hd with ((rfl|rfl|rfl)|⟨j,_,rfl⟩)|rfl|rfl|rfl|rfl|rfl|rfl<;>rfl
@[simp] theorem TDc_len (t:Th):(TDc t).length=17:=by simp[TDc]
@[simp] theorem TDc_get (t:Th) (k:Nat):(TDc t)[k]?=((TDl t)[k]?).map AVal.dat:=by simp[TDc]
@[simp] theorem TDc_rg (t:Th):((TDc t).drop 3).take 8=(RL t).map AVal.dat:=by simp[TDc,←List.map_drop,←List.map_take]
@[simp] theorem TDc_leaf (t:Th):(TDc t).all AVal.leaf=true:=by
 rw[List.all_eq_true];intro x hx;obtain⟨d,hd,rfl⟩:=List.mem_map.1 hx;simp[TDl_noagg t d hd]
@[simp] theorem TDc_dec (T:TLook) (t:Th):decLsT T (TDc t)=some (TDl t,[]):=decLs_dat T (TDl_noagg t)
@[simp] theorem TDc_ids (t:Th):AVal.idsL (TDc t)=[]:=ids_dat _
@[simp] theorem TDc_ren (f:Am.Id→Am.Id) (t:Th):AVal.renL f (TDc t)=TDc t:=ren_dat f _
@[simp] theorem TDl_map (t:Th):(TDl t).map AVal.dat=TDc t:=rfl
end
end Go.Ex

namespace Go.Ex
open Go.Am Go.Rc
variable [Glob]
theorem IDl_noagg (i:In):∀d∈IDl i,d.isAgg=false:=by
 intro d hd;unfold IDl at hd;simp[List.range_succ]at hd;rcases hd with rfl|rfl|rfl|rfl|rfl|rfl|rfl|rfl<;>rfl
def IDc (i:In):List AVal:=(IDl i).map AVal.dat
@[simp] theorem IDc_len (i:In):(IDc i).length=8:=by simp[IDc]
@[simp] theorem IDc_get (i:In) (k:Nat):(IDc i)[k]?=((IDl i)[k]?).map AVal.dat:=by simp[IDc]
@[simp] theorem IDc_leaf (i:In):(IDc i).all AVal.leaf=true:=by
 rw[List.all_eq_true];intro x hx;obtain⟨d,hd,rfl⟩:=List.mem_map.1 hx;simp[IDl_noagg i d hd]
@[simp] theorem IDc_dec (T:TLook) (i:In):decLsT T (IDc i)=some (IDl i,[]):=decLs_dat T (IDl_noagg i)
@[simp] theorem IDc_ids (i:In):AVal.idsL (IDc i)=[]:=ids_dat _
@[simp] theorem IDc_ren (f:Am.Id→Am.Id) (i:In):AVal.renL f (IDc i)=IDc i:=ren_dat f _
@[simp] theorem IDl_map (i:In):(IDl i).map AVal.dat=IDc i:=rfl
theorem RL_noagg (t:Th):∀d∈RL t,d.isAgg=false:=by
 intro d hd;unfold RL at hd;simp[List.range_succ]at hd;rcases hd with rfl|rfl|rfl|rfl|rfl|rfl|rfl|rfl<;>rfl
def RLc (t:Th):List AVal:=(RL t).map AVal.dat
@[simp] theorem RLc_len (t:Th):(RLc t).length=8:=by simp[RLc]
@[simp] theorem RLc_get (t:Th) (k:Nat):(RLc t)[k]?=((RL t)[k]?).map AVal.dat:=by simp[RLc]
@[simp] theorem RLc_leaf (t:Th):(RLc t).all AVal.leaf=true:=by
 rw[List.all_eq_true];intro x hx;obtain⟨d,hd,rfl⟩:=List.mem_map.1 hx;simp[RL_noagg t d hd]
@[simp] theorem RLc_dec (T:TLook) (t:Th):decLsT T (RLc t)=some (RL t,[]):=decLs_dat T (RL_noagg t)
@[simp] theorem RLc_ids (t:Th):AVal.idsL (RLc t)=[]:=ids_dat _
@[simp] theorem RLc_ren (f:Am.Id→Am.Id) (t:Th):AVal.renL f (RLc t)=RLc t:=ren_dat f _
@[simp] theorem RL_map (t:Th):(RL t).map AVal.dat=RLc t:=rfl
@[simp] theorem TDc_rg' (t:Th):((TDc t).drop 3).take 8=RLc t:=rfl
@[simp] theorem TDc_s0 (t:Th) (v:Int):splice (TDc t) 0 [.dat (N v)]=TDc { t with id:=v }:=rfl
@[simp] theorem TDc_s1 (t:Th) (v:Int):splice (TDc t) 1 [.dat (N v)]=TDc { t with fn:=v }:=rfl
@[simp] theorem TDc_s2 (t:Th) (v:Int):splice (TDc t) 2 [.dat (N v)]=TDc { t with pc:=v }:=rfl
@[simp] theorem TDc_s11 (t:Th) (v:Int):splice (TDc t) 11 [.dat (N v)]=TDc { t with st:=v }:=rfl
@[simp] theorem TDc_s12 (t:Th) (v:Int):splice (TDc t) 12 [.dat (N v)]=TDc { t with ch:=v }:=rfl
@[simp] theorem TDc_s13 (t:Th) (v:Int):splice (TDc t) 13 [.dat (N v)]=TDc { t with ph:=v }:=rfl
@[simp] theorem TDc_s14 (t:Th) (v:Int):splice (TDc t) 14 [.dat (N v)]=TDc { t with ss:=v }:=rfl
@[simp] theorem TDc_s15 (t:Th) (v:Int):splice (TDc t) 15 [.dat (N v)]=TDc { t with ft:=v }:=rfl
@[simp] theorem IDl_g1 (i:In) (h:1<(IDl i).length):(IDl i)[1]=N i.a:=rfl
@[simp] theorem IDc_g1 (i:In) (h:1<(IDc i).length):(IDc i)[1]=.dat (N i.a):=rfl
@[simp] theorem IDl_g2 (i:In) (h:2<(IDl i).length):(IDl i)[2]=N i.b:=rfl
@[simp] theorem IDc_g2 (i:In) (h:2<(IDc i).length):(IDc i)[2]=.dat (N i.b):=rfl
@[simp] theorem IDl_g3 (i:In) (h:3<(IDl i).length):(IDl i)[3]=N i.c:=rfl
@[simp] theorem IDc_g3 (i:In) (h:3<(IDc i).length):(IDc i)[3]=.dat (N i.c):=rfl
@[simp] theorem IDl_g4 (i:In) (h:4<(IDl i).length):(IDl i)[4]=N i.o:=rfl
@[simp] theorem IDc_g4 (i:In) (h:4<(IDc i).length):(IDc i)[4]=.dat (N i.o):=rfl
@[simp] theorem IDl_g5 (i:In) (h:5<(IDl i).length):(IDl i)[5]=N i.n:=rfl
@[simp] theorem IDc_g5 (i:In) (h:5<(IDc i).length):(IDc i)[5]=.dat (N i.n):=rfl
@[simp] theorem IDl_g6 (i:In) (h:6<(IDl i).length):(IDl i)[6]=N i.f:=rfl
@[simp] theorem IDc_g6 (i:In) (h:6<(IDc i).length):(IDc i)[6]=.dat (N i.f):=rfl
@[simp] theorem IDl_g7 (i:In) (h:7<(IDl i).length):(IDl i)[7]=N i.r:=rfl
@[simp] theorem IDc_g7 (i:In) (h:7<(IDc i).length):(IDc i)[7]=.dat (N i.r):=rfl
@[simp] theorem IDl_g0 (i:In) (h:0<(IDl i).length):(IDl i)[0]=N i.op:=rfl
@[simp] theorem IDc_g0 (i:In) (h:0<(IDc i).length):(IDc i)[0]=.dat (N i.op):=rfl
@[simp] theorem TDl_g0 (t:Th) (h:0<(TDl t).length):(TDl t)[0]=N t.id:=rfl
@[simp] theorem TDc_g0 (t:Th) (h:0<(TDc t).length):(TDc t)[0]=.dat (N t.id):=rfl
@[simp] theorem TDl_g1 (t:Th) (h:1<(TDl t).length):(TDl t)[1]=N t.fn:=rfl
@[simp] theorem TDc_g1 (t:Th) (h:1<(TDc t).length):(TDc t)[1]=.dat (N t.fn):=rfl
@[simp] theorem TDl_g2 (t:Th) (h:2<(TDl t).length):(TDl t)[2]=N t.pc:=rfl
@[simp] theorem TDc_g2 (t:Th) (h:2<(TDc t).length):(TDc t)[2]=.dat (N t.pc):=rfl
@[simp] theorem TDl_g11 (t:Th) (h:11<(TDl t).length):(TDl t)[11]=N t.st:=rfl
@[simp] theorem TDc_g11 (t:Th) (h:11<(TDc t).length):(TDc t)[11]=.dat (N t.st):=rfl
@[simp] theorem TDl_g12 (t:Th) (h:12<(TDl t).length):(TDl t)[12]=N t.ch:=rfl
@[simp] theorem TDc_g12 (t:Th) (h:12<(TDc t).length):(TDc t)[12]=.dat (N t.ch):=rfl
@[simp] theorem TDl_g13 (t:Th) (h:13<(TDl t).length):(TDl t)[13]=N t.ph:=rfl
@[simp] theorem TDc_g13 (t:Th) (h:13<(TDc t).length):(TDc t)[13]=.dat (N t.ph):=rfl
@[simp] theorem TDl_g14 (t:Th) (h:14<(TDl t).length):(TDl t)[14]=N t.ss:=rfl
@[simp] theorem TDc_g14 (t:Th) (h:14<(TDc t).length):(TDc t)[14]=.dat (N t.ss):=rfl
@[simp] theorem TDl_g15 (t:Th) (h:15<(TDl t).length):(TDl t)[15]=N t.ft:=rfl
@[simp] theorem TDc_g15 (t:Th) (h:15<(TDc t).length):(TDc t)[15]=.dat (N t.ft):=rfl
@[simp] theorem TDl_g16 (t:Th) (h:16<(TDl t).length):(TDl t)[16]=Ns t.hd:=rfl
@[simp] theorem TDc_g16 (t:Th) (h:16<(TDc t).length):(TDc t)[16]=.dat (Ns t.hd):=rfl
@[simp] theorem TDc_s16 (t:Th) (v:List Int):splice (TDc t) 16 [.dat (Ns v)]=TDc { t with hd:=v }:=rfl
theorem TDc_sr (t:Th) {k:Nat} (h:k<8) (v:Int):splice (TDc t) (3+k) [.dat (N v)]=TDc { t with rg:=fun j=>if j=k then v else t.rg j }:=by
 match k,h with
 |0,_|1,_|2,_|3,_|4,_|5,_|6,_|7,_=>rfl
 |n+8,h=>exact absurd h (by omega)
end Go.Ex

namespace Go.Ex
open Go.Am Go.Rc
def MsD (m:Msg):Dat:=.agg [N m.ev,N m.val,Ns m.vw]
abbrev LsD (l:List (List Int)):Dat:=.sl (l.map Ns)
abbrev MLD (l:List (List Msg)):Dat:=.sl (l.map fun r=>.sl (r.map MsD))
abbrev RaDl (s:Ra):List Dat:=[.sl (s.th.map TD),Ns s.me.va,Ns s.me.ow,.sl (s.me.qu.map Ns),Ns s.me.sg,MLD s.ms,LsD s.vs,LsD s.lk,LsD s.sg,.sl (s.ev.map ED),Ns s.rf,LsD s.mo]
abbrev RaD (s:Ra):Dat:=.agg (RaDl s)
@[simp] theorem wMsD (m:Msg):(MsD m).width=3:=rfl
theorem alI_drop [Glob] {α:Type} {f:Nat→α→Bool} {l:List α} {i:Nat} {x:α} (h:l[i]?=some x):alI f (l.drop i) i=(f i x&&alI f (l.drop (i+1)) (i+1)):=by rw[zwb7 h];rfl
def bQ (E R:AEx×St→Prop):Bool→AEx×St→Prop
 |true=>E
 |false=>R
@[simp] theorem bQ_t (E R:AEx×St→Prop) (q:AEx×St):bQ E R true q=E q:=rfl
@[simp] theorem bQ_f (E R:AEx×St→Prop) (q:AEx×St):bQ E R false q=R q:=rfl
def RQ [Glob] (m:Nat) (q:AEx×St):Prop:=q.1=.ret∧endK [.t m] false 0 q=some (.dat (.bool false),[])
@[simp] theorem RQ_eq [Glob] (m:Nat) (q:AEx×St):RQ m q=(q.1=.ret∧endK [.t m] false 0 q=some (.dat (.bool false),[])):=rfl
theorem zca7 {α:Type} {es:List α} {a:Nat} {x:α} (h:es[a]?=some x):(∀h:a<es.length,es[a]=x)∧(a:Int)<es.length∧a<es.length:=by
 obtain⟨h1,h2⟩:=List.getElem?_eq_some_iff.1 h;exact⟨fun _=>h2,by omega,h1⟩
theorem zwd7 {α:Type} {l:List (List α)} {x:Nat} {r:List α} (h:l[x]?=some r):gt2 l x=r:=by simp[gt2,h]
end Go.Ex
