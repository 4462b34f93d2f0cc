/- Parts of the proofs of the statement, joined and made short: EW6 EW14 V2 EW15 EW16 V3 EW17 EW18 EW19 EW20. -/
import Derived.Test.YtmoibjjpfemgjaaGreatDoorP27
set_option linter.unusedVariables false
set_option linter.unusedSimpArgs false
set_option linter.unusedSectionVars false
set_option maxRecDepth 10000
set_option maxHeartbeats 4000000
namespace Go.Am.E
open Go.Proofs Go.Ex Go.Rc
def CD (c:Cf):Dat:=.agg [N c.md,N c.bd]
theorem stE_cases (p:Pg) (a b:Int):(a<0∧stE p (a,b)=11)∨(¬a<0∧(p.fs.length:Int)≤a∧stE p (a,b)=11)∨(¬a<0∧¬(p.fs.length:Int)≤a∧okV b=true∧stE p (a,b)=0)∨(¬a<0∧¬(p.fs.length:Int)≤a∧okV b=false∧stE p (a,b)=2):=by
 unfold stE;by_cases h1:a<0
 ·exact .inl ⟨h1,if_pos (by omega)⟩
 ·by_cases h2:(p.fs.length:Int)≤a
  ·exact .inr (.inl ⟨h1,h2,if_pos (by omega)⟩)
  ·cases h3:okV b
   ·exact .inr (.inr (.inr ⟨h1,h2,rfl,by rw[if_neg (by omega)];rfl⟩))
   ·exact .inr (.inr (.inl ⟨h1,h2,rfl,by rw[if_neg (by omega)];rfl⟩))
theorem run139 (p:Pg):K 139 [.dat (PD p)] []=some (.tup [.dat (N (thrE p)),.dat nonePl],[]):=by
 refine ce rfl ?_;unfold thrE;by_cases c1:(p.ts.length:Int)<1
 ·have c1':p.ts.length<1∨8<p.ts.length:=by omega
  rw[if_pos c1'];simp[c1]
 ·by_cases c2:(8:Int)<p.ts.length
  ·have c1':p.ts.length<1∨8<p.ts.length:=by omega
   rw[if_pos c1'];simp[c1,c2]
  ·have c1':¬(p.ts.length<1∨8<p.ts.length):=by omega
   rw[if_neg c1'];simp[c1,c2];simp only[zaa7]
   refine (zeb7 (live:=[1,3,4,20,21,22]) (drop:=[1,3,4,20]) p.ts (by omega) (fun k=>⟨[(1,.ref ((2,0),0,0) 0),(3,.ref ((4,0),0,0) 0),(4,.ref ((5,0),0,0) 0),(20,.dat (.sl (p.ts.map NP))),(21,.dat (N p.ts.length)),(22,.dat (N k))],
     [((2,0),.plain (.box ((PDl p).map AVal.dat))),((4,0),.plain (.box [.dat (N 0),.dat (N 0)])),((5,0),.plain (.box [.dat (N (-1)),.dat (N (-1))]))]⟩)
    (fun i q=>if fst0 ((p.ts.map (stE p)).drop i)=0 then q.1=.exit 0∧hd [3,4] [] q.2=some ⟨[(3,.ref ((4,0),0,0) 0),(4,.ref ((5,0),0,0) 0)],[((2,0),.plain (.box ((PDl p).map AVal.dat))),((4,0),.plain (.box [.dat (N 0),.dat (N 0)])),((5,0),.plain (.box [.dat (N (-1)),.dat (N (-1))]))]⟩ else q.1=.ret∧endK [.t 2,.cell 3 2 true] false 0 q=some (.tup [.dat (N (fst0 ((p.ts.map (stE p)).drop i))),.dat nonePl],[]))
    (fun i y s h1 h2 h3 ix hs=>?_) (fun s hs=>?_) _ (by simp)).mono ?_
   ·have h4:=fst0_drop (f:=stE p) h1;obtain⟨a,b⟩:=y
    rcases stE_cases p a b with⟨d1,e⟩|⟨d1,d2,e⟩|⟨d1,d2,d3,e⟩|⟨d1,d2,d3,e⟩ <;>
     simp only[e]at h4<;>simp[hs,h1,h2,h3,ix,NP,run207,h4, *]
   ·simp[hs,fst0]
   ·rintro⟨y,s⟩ hq;simp only[List.drop_zero]at hq;split at hq
    ·rename_i h;obtain⟨rfl,hq⟩:=hq;simp[hq,h]
    ·rename_i h;obtain⟨rfl,hq⟩:=hq;simp[hq,h]
theorem run137 (p:Pg) (hl:p.vs.length<1000000000):K 137 [.dat (PD p)] []=some (.tup [.dat (N (if limE p=0 then iniE p else limE p)),.dat nonePl],[]):=by
 refine ce rfl ?_;by_cases hlim:limE p=0
 ·rw[if_pos hlim];unfold limE at hlim;have c1:¬(8:Int)<p.vs.length∧¬(4:Int)<p.ms.length∧¬(4:Int)<p.cs.length∧¬(8:Int)<p.fs.length:=by split at hlim<;>omega
  obtain⟨c1,c2,c3,c4⟩:=c1;simp[c1,c2,c3,c4];simp only[zaa7]
  refine (zeb7 (live:=[3,4,32,33,34]) (drop:=[3,4,32]) p.vs (by omega) (fun k=>⟨[(3,.ref ((4,0),0,0) 0),(4,.ref ((5,0),0,0) 0),(32,.dat (.sl (p.vs.map VD))),(33,.dat (N p.vs.length)),(34,.dat (N k))],
    [((4,0),.plain (.box [.dat (N 0),.dat (N 0)])),((5,0),.plain (.box [.dat (N (-1)),.dat (N (-1))]))]⟩)
   (fun i q=>if ((p.vs.drop i).all fun v=>okV v.2)=true then q.1=.exit 0∧hd [3,4] [] q.2=some ⟨[(3,.ref ((4,0),0,0) 0),(4,.ref ((5,0),0,0) 0)],[((4,0),.plain (.box [.dat (N 0),.dat (N 0)])),((5,0),.plain (.box [.dat (N (-1)),.dat (N (-1))]))]⟩ else q.1=.ret∧endK [.t 2,.cell 3 2 true] false 0 q=some (.tup [.dat (N 2),.dat nonePl],[]))
   (fun i y s h1 h2 h3 ix hs=>?_) (fun s hs=>?_) _ (by simp)).mono ?_
  ·have h4:=zwb7 h1;obtain⟨a,b⟩:=y;have h5:((p.vs.drop i).all fun v=>okV v.2)=(okV b&&(p.vs.drop (i+1)).all fun v=>okV v.2):=by rw[h4];rfl
   cases d:okV b<;>rw[d]at h5
   ·simp[hs,h1,h2,h3,ix,VD,run207,h5,d]
   ·simp only[Bool.true_and]at h5;simp[hs,h1,h2,h3,ix,VD,run207,d];rw[h5];exact fun _ _ h=>h
  ·simp[hs]
  ·unfold iniE;rintro⟨y,s⟩ hq;simp only[List.drop_zero]at hq;split at hq
   ·rename_i h;obtain⟨rfl,hq⟩:=hq;rw[if_pos h];simp[hq]
   ·rename_i h;obtain⟨rfl,hq⟩:=hq;rw[if_neg h];simp[hq]
 ·rw[if_neg hlim];have hlim':limE p=4:=by unfold limE at hlim ⊢;split at hlim<;>simp_all
  rw[hlim'];unfold limE at hlim;by_cases c1:(8:Int)<p.vs.length
  ·simp[c1]
  ·by_cases c2:(4:Int)<p.ms.length
   ·simp[c1,c2]
   ·by_cases c3:(4:Int)<p.cs.length
    ·simp[c1,c2,c3]
    ·by_cases c4:(8:Int)<p.fs.length
     ·simp[c1,c2,c3,c4]
     ·exact absurd (if_neg (by omega)) hlim
end Go.Am.E

set_option maxRecDepth 10000
set_option maxHeartbeats 4000000
namespace Go.Am.E
open Go.Proofs Go.Ex Go.Rc
structure Fit (p:Pg):Prop where
 vs:p.vs.length<1000000000
 ms:p.ms.length<1000000000
 cs:p.cs.length<1000000000
 fs:p.fs.length<1000000000
 cd:∀F∈p.fs,F.2.length<1000000000
theorem chP_eq (p:Pg):chP p=if nmsE p=0 then (if (if limE p=0 then iniE p else limE p)=0 then (if codE p=0 then thrE p else codE p) else (if limE p=0 then iniE p else limE p)) else nmsE p:=by
 unfold chP;by_cases h1:nmsE p=0<;>by_cases h2:limE p=0<;>by_cases h3:iniE p=0<;>by_cases h4:codE p=0<;>by_cases h5:thrE p=0<;>simp[fst0,h1,h2,h3,h4,h5]
theorem run71 (p:Pg) (h:Fit p):∃a b:Int,K 71 [.dat (PD p)] []=some (.tup [.dat (N (chP p)),.dat (N a),.dat (N b)],[]):=by
 obtain⟨a1,b1,h1⟩:=run136 p h.vs h.ms h.cs h.fs;have h2:=run137 p h.vs;obtain⟨a3,b3,h3⟩:=run138 p h.fs h.cd;have h4:=run139 p;rw[chP_eq];generalize nmsE p=e1 at *
 generalize (if limE p=0 then iniE p else limE p)=e2 at *
 generalize codE p=e3 at *
 generalize thrE p=e4 at *
 by_cases c1:e1=0
 ·subst c1;by_cases c2:e2=0
  ·subst c2;by_cases c3:e3=0
   ·subst c3;by_cases c4:e4=0
    ·subst c4;refine⟨-1,-1,ce rfl ?_⟩;simp[*]
    ·refine⟨-1,-1,ce rfl ?_⟩;simp[*]
   ·refine⟨a3,b3,ce rfl ?_⟩;simp[*]
  ·refine⟨-1,-1,ce rfl ?_⟩;simp[*]
 ·refine⟨a1,b1,ce rfl ?_⟩;simp[*]
theorem run34 (p:Pg) (h:Fit p):K 34 [.dat (PD p)] []=some (.dat (.bool (decide (chP p=0))),[]):=by
 obtain⟨a,b,h1⟩:=run71 p h;exact ce rfl (by simp[h1])
theorem stdE_if (p:Pg) (bd:Int):stdE p bd=if chP p=0 then (if bd<1 then 2 else if 32<bd then 2 else 0) else chP p:=by
 unfold stdE;by_cases h1:chP p=0<;>by_cases h2:bd<1<;>by_cases h3:32<bd<;>simp[h1,h2,h3]
theorem run98 (p:Pg) (bd:Int) (h:Fit p):K 98 [.dat (PD p),.dat (N bd)] []=some (.dat (N (stdE p bd)),[]):=by
 obtain⟨a,b,h1⟩:=run71 p h;rw[stdE_if];refine ce rfl ?_;generalize chP p=e at *
 by_cases c1:e=0
 ·subst c1;by_cases h2:bd<1<;>by_cases h3:32<bd<;>simp[h1,h2,h3]
 ·simp[h1,c1]
theorem run202 (n:Int) (h:0≤n) (h2:n<100000000000000):K 202 [.dat (N n)] []=some (.tup [.dat (N (n / 8-1)),.dat (N (n % 8))],[]):=ce rfl (by
 have e:n.tdiv 8=n / 8:=Int.tdiv_eq_ediv_of_nonneg h;have e2:n.tmod 8=n % 8:=Int.tmod_eq_emod_of_nonneg h;have h1:IntKind.wrap .i64 (n / 8)=n / 8:=wrap_i64 (by omega) (by omega);have h3:IntKind.wrap .i64 (n / 8-1)=n / 8-1:=wrap_i64 (by omega) (by omega);simp[e,e2,h1,h3])
def depZ (id:Int):Int:=match dep id with
 |some d=>d
 |none => -1
def depP (d:Nat) (r:Option Nat) (q:AEx×St):Prop:=match r with
 |some r=>q.1=.ret∧endK [.t 2] false 0 q=some (.dat (N (d+r:Nat)),[])
 |none=>(q.1=.ret∧endK [.t 2] false 0 q=some (.dat (N (-1)),[]))∨(q.1=.exit 0∧hd [] [] q.2=some ⟨[],[]⟩)
theorem dep_loop:∀(k d:Nat) (e:Int) (s:St),d+k=5→0≤e→e<100000000000000→hd [0,8] [] s=some ⟨[(0,.dat (N e)),(8,.dat (N d))],[]⟩→Ev (zga7 (exec K l125_0) s) (depP d (dpt k e))
 |0,d,e,s,hk,h0,h1,hs=>by
  have:d=5:=by omega
  subst this;apply zya7;simp[hs,dpt,depP]
 |k+1,d,e,s,hk,h0,h1,hs=>by
  have ix:Ix d:=by unfold Ix;omega
  have h5:(d:Int)<5:=by omega
  have h6:=run202 e h0 h1;apply zya7;by_cases c1:e<8
  ·simp[hs,h5,c1,dpt,depP]
  ·by_cases c2:7≤e % 8
   ·simp[hs,h5,c1,c2,dpt,h6,depP]
   ·simp[hs,h5,c1,c2,dpt,h6,ix];refine (dep_loop k (d+1) (e / 8-1) _ (by omega) (by omega) (by omega) (by simp)).mono fun q hq=>?_
    cases c:dpt k (e / 8-1)<;>simp only[c,depP,Option.map_none,Option.map_some]at hq ⊢
    ·exact hq
    ·rename_i r;rw[show d+(r+1)=d+1+r by omega];exact hq
theorem run125 (id:Int) (hid:id<100000000000000):K 125 [.dat (N id)] []=some (.dat (N (depZ id)),[]):=by
 refine ce rfl ?_;by_cases h0:id<0
 ·simp[depZ,dep,h0]
 ·simp[h0];simp only[zaa7];refine (dep_loop 5 0 id _ rfl (by omega) hid (by simp)).mono ?_;rintro⟨y,s⟩ hq;simp only[depZ,dep,h0,if_false];cases c:dpt 5 id<;>simp only[c,depP]at hq
  ·rcases hq with⟨rfl,hq⟩|⟨rfl,hq⟩<;>simp[hq]
  ·obtain⟨rfl,hq⟩:=hq;simp[hq]
theorem dep_bd {k:Nat}:∀{id:Int} {d:Nat},dpt k id=some d→id<8 ^ k*16-8∧d<k:=by
 induction k with
 |zero=>intro id d h;simp[dpt]at h
 |succ k ih=>
  intro id d h;simp only[dpt]at h;have h8:(1:Int)≤8 ^ k:=Int.pow_pos (by omega);split at h
  ·injection h with h;rw[Int.pow_succ];omega
  ·split at h
   ·cases h
   ·cases c:dpt k (id / 8-1)<;>rw[c]at h
    ·cases h
    ·simp only[Option.map_some,Option.some.injEq]at h;have:=ih c;rw[Int.pow_succ];omega
def chdP (t:Th):Dat×Dat:=match chd t with
 |some c=>(N c,.bool true)
 |none=>(N 0,.bool false)
theorem run163 (t:Th) (hid:t.id<100000000000000):K 163 [.dat (TD t)] []=some (.tup [.dat (chdP t).1,.dat (chdP t).2],[]):=by
 have h1:=run125 t.id hid;unfold chdP chd;unfold depZ at h1;cases c:dep t.id with
 |none=>
  rw[c]at h1;exact ce rfl (by simp[h1])
 |some d=>
  rw[c]at h1
  have hb:t.id<8 ^ 5*16-8∧d<5∧0≤t.id:=by
   unfold dep at c;split at c
   ·cases c
   ·have:=dep_bd c;omega
  obtain⟨hb1,hb2,hb3⟩:=hb;refine ce rfl ?_;by_cases c1:d=4
  ·subst c1;simp[h1]
  ·have c1':¬(d:Int)=4:=by omega
   by_cases c2:t.ch<0
   ·simp[h1,c1,c1',c2]
   ·by_cases c3:7≤t.ch
    ·simp[h1,c1,c1',c2,c3]
    ·have w1:IntKind.wrap .i64 (t.id+1)=t.id+1:=wrap_i64 (by omega) (by omega);have w2:IntKind.wrap .i64 (8*(t.id+1))=8*(t.id+1):=wrap_i64 (by omega) (by omega);have w3:IntKind.wrap .i64 (8*(t.id+1)+t.ch)=8*(t.id+1)+t.ch:=wrap_i64 (by omega) (by omega);simp[h1,c1,c1',c2,c3,w1,w2,w3]
theorem run90 (l:List Int) (x:Int) (hl:l.length<100000000000):K 90 [.dat (Ns l),.dat (N x)] []=some (.dat (N (ixo (fun y=>x==y) l 0)),[]):=by
 refine ce rfl ?_;rw[scan_ixo];simp;simp only[zaa7]
 refine (zzb7 (live:=[0,1,7,8]) (drop:=[]) l (ixf fun y=>x==y) (by omega) (fun k=>⟨[(0,.dat (Ns l)),(1,.dat (N x)),(7,.dat (N l.length)),(8,.dat (N k))],[]⟩)
  (fun q=>q.1=.exit 0∧hd [] [] q.2=some ⟨[],[]⟩) (fun i q=>q.1=.ret∧endK [.t 4] false 0 q=some (.dat (N i),[]))
  (fun i y s h1 h2 h3 ix hs=>?_) (fun s hs=>?_) _ (by simp)).mono ?_
 ·by_cases c:x=y<;>simp[hs,h1,h2,h3,ix,c,ixf]
 ·simp[hs]
 ·rintro⟨y,s⟩ hq;cases c:scan (ixf fun y=>x==y) l 0<;>rw[c]at hq<;>obtain⟨rfl,hq⟩:=hq<;>simp[hq]
theorem run42 (l:List Int) (x:Int) (hl:l.length<100000000000):K 42 [.dat (Ns l),.dat (N x)] []=some (.dat (.bool (l.contains x)),[]):=
 ce rfl (by simp[run90 l x hl,ixo_any,List.elem_eq_contains,List.contains_eq_any_beq])
theorem run224 (l:List Int) (x:Int) (hl:l.length<100000000000):K 224 [.dat (Ns l),.dat (N x)] []=some (.dat (.bool (l.contains x)),[]):=
 ce rfl (by simp[run42 l x hl])
end Go.Am.E

set_option maxRecDepth 10000
set_option maxHeartbeats 4000000
namespace Go.Am.E
open Go.Proofs Go.Ex Go.Rc
attribute [-simp] splice
attribute [local simp] zma7 MsD VD
theorem run143 (p:Pg) (s:Ra) (x k:Nat) (h0:k=0→x<p.vs.length) (h1:k≠0→x<s.ms.length∧k-1<(gt2 s.ms x).length) (hk:k<1000000000):K 143 [.dat (PD p),.dat (RaD s),.dat (N x),.dat (N k)] []=some (.dat (N (atV p s x k)),[]):=ce rfl (by
 cases k with
 |zero=>
  have hx:=List.getElem?_eq_getElem (h0 rfl);obtain⟨x2,x3,x4⟩:=zca7 hx;generalize p.vs[x]'(h0 rfl)=v at *
  obtain⟨nm,v⟩:=v;simp[hx,x2,x3,x4,atV]
 |succ k=>
  obtain⟨h2,h3⟩:=h1 (by omega);have hx:=List.getElem?_eq_getElem h2;rw[zwd7 hx]at h3;have hg:=zwd7 hx;obtain⟨x2,x3,x4⟩:=zca7 hx;generalize s.ms[x]=l at *
  have hm:=List.getElem?_eq_getElem h3;obtain⟨m2,m3,m4⟩:=zca7 hm;simp only[Nat.add_sub_cancel]at hm m2 m3 m4 h3;generalize l[k]=m at *
  have e:((k+1:Nat):Int)-1=k:=by omega
  have ix:Ix k:=by unfold Ix;omega
  have e0:¬(k:Int)+1=0:=by omega
  have hw:IntKind.wrap .i64 (k:Int)=k:=wrap_i64 (by omega) (by omega);obtain⟨ev,vl,vw⟩:=m;simp[hx,x2,x3,x4,hm,m2,m3,m4,atV,hg,e0,hw])
theorem run144 (s:Ra) (x k:Nat) (hx:x<s.ms.length) (hl:(gt2 s.ms x).length<1000000000) (hm:∀m∈gt2 s.ms x,0≤m.ev∧m.ev<s.ev.length) (hk:k<1000000000):K 144 [.dat (RaD s),.dat (N x),.dat (N k)] []=some (.dat (.bool (updV s x k)),[]):=ce rfl (by
 have hx1:=List.getElem?_eq_getElem hx;have hg:=zwd7 hx1;obtain⟨x2,x3,x4⟩:=zca7 hx1;rw[hg]at hl hm;generalize s.ms[x]=l at *
 cases k with
 |zero=>simp[updV]
 |succ k=>
  have h1:(1:Int)≤(k:Int)+1:=by omega
  have hw:IntKind.wrap .i64 (k:Int)=k:=wrap_i64 (by omega) (by omega);by_cases h2:k<l.length
  ·have h2':(k:Int)+1≤l.length:=by omega
   have hmm:=List.getElem?_eq_getElem h2;have hb:=hm _ (List.getElem_mem h2);obtain⟨m2,m3,m4⟩:=zca7 hmm;generalize l[k]=m at *
   obtain⟨en,hen⟩:=Int.eq_ofNat_of_zero_le hb.1;have he2:en<s.ev.length:=by omega
   have he:=List.getElem?_eq_getElem he2;obtain⟨e2,e3,e4⟩:=zca7 he;generalize s.ev[en]=e at *
   obtain⟨ev,vl,vw⟩:=m;dsimp only at hen;subst hen;obtain⟨ag,idx,kind,obj,mux,ent,ord,rd,wr⟩:=e;by_cases h5:kind=5
   ·subst h5;simp[hx1,x2,x3,x4,hmm,m2,m3,m4,updV,hg,h1,h2,h2',hw,he,e2,e3,e4]
   ·simp[hx1,x2,x3,x4,hmm,m2,m3,m4,updV,hg,h1,h2,h2',hw,he,e2,e3,e4,h5]
  ·have h2':¬(k:Int)+1≤l.length:=by omega
   have hmm:l[k]?=none:=List.getElem?_eq_none (by omega);simp[hx1,x2,x3,x4,hmm,updV,hg,h1,h2,h2',hw])
end Go.Am.E

set_option maxRecDepth 10000
set_option maxHeartbeats 4000000
namespace Go.Am.E
open Go.Proofs Go.Ex Go.Rc
theorem run77 (t:Th) (id:Int):K 77 [.dat (TD t),.ref ((0,0),0,0) 0] [.plain (.box [.dat (N id)])]=some (.dat (.bool (decide (t.id=id))),[.plain (.box [.dat (N id)])]):=ce rfl (by simp)
theorem run76 (l:List Th) (id:Int) (hl:l.length<100000000000):K 76 [.dat (.sl (l.map TD)),.fn 77 [.ref ((0,0),0,0) 0]] [.plain (.box [.dat (N id)])]=some (.dat (N (ixo (fun t=>decide (t.id=id)) l 0)),[.plain (.box [.dat (N id)])]):=by
 refine ce rfl ?_;rw[scan_ixo];simp;simp only[zaa7]
 refine (zzb7 (live:=[0,1,7,8]) (drop:=[]) l (ixf fun t=>decide (t.id=id)) (by omega) (fun k=>⟨[(0,.dat (.sl (l.map TD))),(1,.fn 77 [.ref ((0,0),0,0) 0]),(7,.dat (N l.length)),(8,.dat (N k))],[((0,0),.plain (.box [.dat (N id)]))]⟩)
  (fun q=>q.1=.exit 0∧hd [] [] q.2=some ⟨[],[((0,0),.plain (.box [.dat (N id)]))]⟩) (fun i q=>q.1=.ret∧endK [.t 4] false 1 q=some (.dat (N i),[.plain (.box [.dat (N id)])]))
  (fun i y s h1 h2 h3 ix hs=>?_) (fun s hs=>?_) _ (by simp)).mono ?_
 ·have h4:=run77 y id;by_cases c:y.id=id<;>simp[hs,h1,h2,h3,ix,c,ixf,h4,YID]<;>simp[c]at h4<;>simp[h4]
 ·simp[hs]
 ·rintro⟨y,s⟩ hq;cases c:scan (ixf fun t:Th=>decide (t.id=id)) l 0<;>rw[c]at hq<;>obtain⟨rfl,hq⟩:=hq<;>simp[hq]
theorem ixo_fnd (id:Int):∀(l:List Th) (k:Nat),ixo (fun t=>decide (t.id=id)) l k=match fndT l id with
  |some i=>((k+i:Nat):Int)
  |none => -1
 |[],k=>rfl
 |t::r,k=>by
  have ih:=ixo_fnd id r (k+1);by_cases c:t.id=id
  ·simp[ixo,fndT,c]
  ·simp only[ixo,fndT,c,decide_false,if_false,Bool.false_eq_true,ih];cases fndT r id with
   |none=>rfl
   |some i=>simp only[Option.map_some];congr 1;omega
def fndP (l:List Th) (id:Int):AVal:=match fndT l id with
 |some i=>.tup [.dat (N i),.dat (.bool true)]
 |none=>.tup [.dat (N 0),.dat (.bool false)]
theorem run36 (l:List Th) (id:Int) (hl:l.length<100000000000):K 36 [.dat (.sl (l.map TD)),.dat (N id)] []=some (fndP l id,[]):=by
 have h1:=run76 l id hl;rw[ixo_fnd]at h1;unfold fndP;cases c:fndT l id with
 |none=>
  simp only[c]at h1;exact ce rfl (by simp[h1])
 |some i=>
  simp only[c]at h1;have h2:(0:Int)≤i:=by omega
  have h3:¬(i:Int)<0:=by omega
  exact ce rfl (by simp[h1])
structure InP (p:Pg) (t:Th):Prop where
 f0:0≤t.fn
 f1:t.fn<p.fs.length
 p0:0≤t.pc
theorem codeT_get {p:Pg} {t:Th} (h:InP p t):∃F,p.fs[t.fn.toNat]?=some F∧(∀h:t.fn.toNat<p.fs.length,p.fs[t.fn.toNat]=F)∧codeT p t=F.2:=by
 obtain⟨h1,h2,h3⟩:=h;obtain⟨F,g1,g2⟩:=zad7 p.fs (i:=t.fn.toNat) (by omega);exact⟨F,g1,g2,by simp[codeT,g1]⟩
abbrev ID0:Dat:=.agg [N 0,N 0,N 0,N 0,N 0,N 0,N 0,N 0]
def insP:Option In→AVal
 |some i=>.tup [.dat (ID i),.dat (.bool true)]
 |none=>.tup [.dat ID0,.dat (.bool false)]
theorem run91 (p:Pg) (t:Th) (h:InP p t):K 91 [.dat (PD p),.dat (TD t)] []=some (insP (insT p t),[]):=by
 obtain⟨F,g1,g2,g3⟩:=codeT_get h;obtain⟨h1,h2,h3⟩:=h;obtain⟨n,c⟩:=F;unfold insT;rw[g3];refine ce rfl ?_;simp only at *
 have c1':t.fn.toNat<p.fs.length:=by omega
 by_cases c1:(c.length:Int)≤t.pc
 ·have c2:c[t.pc.toNat]?=none:=List.getElem?_eq_none (by omega);simp[h1,h2,h3,g1,g2,c1,c2,insP,FD,c1']
 ·obtain⟨x,x1,x2⟩:=zad7 c (i:=t.pc.toNat) (by omega);have c3:t.pc.toNat<c.length:=by omega
  have c4:t.pc<c.length:=by omega
  simp[h1,h2,h3,g1,g2,c1,c3,c4,x1,x2,insP,FD,c1']
theorem run212 (l:List Int) (hl:l.length<100000000000):K 212 [.dat (Ns l)] []=some (.dat (.bool (incr l)),[]):=by
 refine ce rfl ?_;simp;simp only[zaa7]
 refine (ev_for (live:=[0,3]) (drop:=[]) (l.length-1) (fun d=>⟨[(0,.dat (Ns l)),(3,.dat (N ((d+1:Nat):Int)))],[]⟩)
   (fun d q=>if incr (l.drop d)=true then q.1=.exit 0∧hd [] [] q.2=some ⟨[],[]⟩ else q.1=.ret∧endK [.t 2] false 0 q=some (.dat (.bool false),[]))
   (fun d s hd' hs=>?_) (fun s hs=>?_) (l.length-1) 0 _ (by omega) (by simp)).mono ?_
 ·obtain⟨a,a1,a2⟩:=zad7 l (i:=d) (by omega);obtain⟨b,b1,b2⟩:=zad7 l (i:=d+1) (by omega);have ix:Ix (d+1):=by unfold Ix;omega
  have ix':Ix d:=by unfold Ix;omega
  have h1:(d:Int)+1<l.length:=by omega
  have w:IntKind.wrap .i64 (d:Int)=d:=wrap_i64 (by omega) (by omega);have h2:(d:Int)<l.length:=by omega
  have wS:IntKind.wrap .i64 ((d:Int)+1+1)=d+1+1:=wrap_i64 (by omega) (by omega);have e:incr (l.drop d)=(decide (a<b)&&incr (l.drop (d+1))):=by rw[zwb7 a1,zwb7 b1];rfl
  by_cases c:a<b
  ·have c':¬b≤a:=by omega
   simp only[c,decide_true,Bool.true_and]at e;simp[hs,h1,h2,a1,b1,a2,b2,w,wS,c,c',e]
   try (intro a b h;rw[e];exact h)
  ·have c':b≤a:=by omega
   simp[hs,h1,h2,a1,b1,a2,b2,w,c,c',e]
 ·have h1:¬((l.length-1:Nat):Int)+1<l.length:=by omega
  have e:incr (l.drop (l.length-1))=true:=by
   have:(l.drop (l.length-1)).length≤1:=by simp;omega
   match h:l.drop (l.length-1),this with
   |[],_=>rfl
   |[a],_=>rfl
  simp[hs,h1,e]
 ·rintro⟨y,s⟩ hq;simp only[List.drop_zero]at hq;split at hq
  ·rename_i h;obtain⟨rfl,hq⟩:=hq;simp[hq,h]
  ·rename_i h;obtain⟨rfl,hq⟩:=hq;simp[hq,h]
end Go.Am.E

set_option maxRecDepth 10000
set_option maxHeartbeats 4000000
namespace Go.Am.E
open Go.Proofs Go.Ex Go.Rc
abbrev X323 (p:Pg) (t:Th):zsa7:=[((4,0),.plain (.box ((PDl p).map AVal.dat))),((6,0),.plain (.box (TDc t)))]
abbrev E323 (bd d:Int):Env:=[(1,.dat (N bd)),(3,.ref ((4,0),0,0) 0),(5,.ref ((6,0),0,0) 0),(7,.dat (N d))]
theorem w32_okV (n:Int):(w32 n=n)=(okV n=true):=by rw[okV_iff,w32_val]
def rgX (i:Nat) (n:Int):Option Unit:=if okV n=true then none else some ()
theorem RLc_g (t:Th) {j:Nat} (h:j<(RLc t).length):(RLc t)[j]=.dat (N (t.rg j)):=by
 have h8:j<8:=by simpa using h
 have:=RLc_get t j;rw[RL_get t h8,List.getElem?_eq_getElem h]at this;exact Option.some.inj this
theorem loop170_0 (p:Pg) (t:Th) (bd d:Int) (s:St) (hs:hd [1,3,5,7,51,52] [] s=some ⟨E323 bd d++[(51,.agg (RLc t)),(52,.dat (N 0))],X323 p t⟩):
  Ev (zga7 (exec K l170_0) s) (oQ (fun q=>q.1=.exit 0∧hd [1,3,5,7] [] q.2=some ⟨E323 bd d,X323 p t⟩) (fun _ q=>q.1=.ret∧endK [.t 6] false 0 q=some (.dat (.bool false),[])) (scan rgX ((List.range 8).map t.rg) 0)):=by
 refine zzb7 (live:=[1,3,5,7,51,52]) (drop:=[]) ((List.range 8).map t.rg) rgX (by simp) (fun k=>⟨E323 bd d++[(51,.agg (RLc t)),(52,.dat (N k))],X323 p t⟩) _ _
  (fun i y s h1 h2 h3 ix hs=>?_) (fun s hs=>?_) s hs
 ·have h4:=run100 y;have h5:i<8:=by simp at h3;omega
  have h6:(i:Int)<8:=by omega
  have h7:t.rg i=y:=by rw[List.getElem?_map,List.getElem?_range h5]at h1;exact Option.some.inj h1
  have h8:=RL_get t h5;rw[h7]at h8;have h9:∀h:i<(RLc t).length,(RLc t)[i]=.dat (N y):=fun h=>by rw[RLc_g,h7]
  cases c:okV y
  ·have c':=w32_okV y;simp only[c]at c';simp[hs,h6,h5,h8,h9,ix,h4,rgX,c,c']
  ·have c':w32 y=y:=by rw[w32_okV,c]
   rw[c']at h4;simp[hs,h6,h5,h8,h9,ix,h4,rgX,c,c']
 ·simp[hs]
theorem scan_all {α:Type} (f:α→Bool) (l:List α):∀k:Nat,scan (fun _ x=>if f x=true then none else some ()) l k=if l.all f=true then none else some ():=by
 induction l with
 |nil=>intro k;rfl
 |cons a r ih=>intro k;cases c:f a<;>simp[scan,c,ih]
abbrev E323b:Env:=[(3,.ref ((4,0),0,0) 0),(5,.ref ((6,0),0,0) 0)]
def okH (p:Pg) (m:Int):Bool:=decide (0≤m∧m<p.ms.length)
theorem loop170_1 (p:Pg) (t:Th) (hl:t.hd.length<100000000000) (s:St) (hs:hd [3,5,95,96,97] [] s=some ⟨E323b++[(95,.dat (Ns t.hd)),(96,.dat (N t.hd.length)),(97,.dat (N 0))],X323 p t⟩):
  Ev (zga7 (exec K l170_1) s) (oQ (fun q=>q.1=.exit 2∧hd [3,5] [] q.2=some ⟨E323b,X323 p t⟩) (fun _ q=>q.1=.ret∧endK [.t 6] false 0 q=some (.dat (.bool false),[])) (if t.hd.all (okH p)=true then none else some ())):=by
 rw[←scan_all (okH p) t.hd 0]
 refine zzb7 (live:=[3,5,95,96,97]) (drop:=[]) t.hd _ (by omega) (fun k=>⟨E323b++[(95,.dat (Ns t.hd)),(96,.dat (N t.hd.length)),(97,.dat (N k))],X323 p t⟩) _ _
  (fun i y s h1 h2 h3 ix hs=>?_) (fun s hs=>?_) s hs
 ·by_cases c1:y<0
  ·have c:okH p y=false:=by simp[okH];omega
   simp[hs,h1,h2,h3,ix,c1,c]
  ·by_cases c2:(p.ms.length:Int)≤y
   ·have c:okH p y=false:=by simp[okH];omega
    simp[hs,h1,h2,h3,ix,c1,c2,c]
   ·have c:okH p y=true:=by simp[okH];omega
    simp[hs,h1,h2,h3,ix,c1,c2,c]
 ·simp[hs]
structure Tb (t:Th):Prop where
 id:t.id<100000000000000
 hd:t.hd.length<1000000000
theorem run170 (p:Pg) (bd:Int) (t:Th) (hb:Tb t):K 170 [.dat (PD p),.dat (N bd),.dat (TD t)] []=some (.dat (.bool (frmT p bd t)),[]):=by
 obtain⟨hid,hhd⟩:=hb;have h1:=run125 t.id hid;unfold depZ at h1;refine ce rfl ?_;cases c0:dep t.id with
 |none=>
  rw[c0]at h1;simp[h1,frmT,c0]
 |some d=>
  rw[c0]at h1;by_cases c1:t.fn<0
  ·have e:frmT p bd t=false:=by simp only[frmT,c0,show decide (0≤t.fn∧t.fn<p.fs.length)=false by simp;omega,Bool.false_and]
   simp[h1,c1,e]
  ·by_cases c2:(p.fs.length:Int)≤t.fn
   ·have e:frmT p bd t=false:=by simp only[frmT,c0,show decide (0≤t.fn∧t.fn<p.fs.length)=false by simp;omega,Bool.false_and]
    simp[h1,c1,c2,e]
   ·by_cases c3:t.pc<0
    ·have e:frmT p bd t=false:=by simp only[frmT,c0,show decide (0≤t.pc∧t.pc≤((codeT p t).length:Int))=false by simp;omega,Bool.false_and,Bool.and_false]
     simp[h1,c1,c2,c3,e]
    ·have hin:InP p t:=⟨by omega,by omega,by omega⟩;have h2:=run91 p t hin;obtain⟨F,g1,g2,g3⟩:=codeT_get hin;have c1':t.fn.toNat<p.fs.length:=by omega
     have c2':t.fn<p.fs.length:=by omega
     have c3':0≤t.fn:=by omega
     obtain⟨n,code⟩:=F;simp only at g3;by_cases c4:(code.length:Int)<t.pc
     ·have e:frmT p bd t=false:=by simp only[frmT,c0,g3,show decide (0≤t.pc∧t.pc≤(code.length:Int))=false by simp;omega,Bool.false_and,Bool.and_false]
      simp[h1,c1,c2,c3,c4,e,c1',c2',c3',g1,g2,FD]
     ·simp[h1,c1,c2,c3,c4,c1',c2',c3',g1,g2,FD];simp only[zaa7];refine (loop170_0 p t bd d _ (by simp[h1,c1,c2,c3,c4,c1',c2',c3',g1,g2,FD])).mono ?_;rintro⟨y,s⟩ hq;rw[show (rgX:Nat→Int→Option Unit)=fun _ n=>if okV n=true then none else some () from rfl,scan_all]at hq
      have e:frmT p bd t=((List.range 8).all (fun j=>okV (t.rg j))&&decide (0≤t.st∧t.st≤bd)&&decide (0≤t.ch∧t.ch≤7)&&(decide (d≠4)||decide (t.ch=0))&&incr t.hd &&
        t.hd.all (okH p)&&(decide (t.ph=0)||(decide (t.ph=1∨t.ph=2)&&match insT p t with
        |none=>false
        |some i=>decide (i.op=18)&&!t.hd.contains i.n))):=by
       simp only[frmT,c0,g3,show decide (0≤t.pc∧t.pc≤(code.length:Int))=true by simp;omega,show decide (0≤t.fn∧t.fn<p.fs.length)=true by simp;omega,Bool.true_and];rfl
      rw[List.all_map,show (okV∘t.rg)=fun j=>okV (t.rg j) from rfl]at hq;generalize (List.range 8).all (fun j=>okV (t.rg j))=R at e hq;cases R
      ·simp at hq;obtain⟨rfl,hq⟩:=hq;simp[hq,e]
      ·simp only[if_true,oQ_n,Bool.true_and]at hq e;obtain⟨rfl,hq⟩:=hq;have h3:=run212 t.hd (by omega);have cd:((d:Int)=4)=(d=4):=by rw[eq_iff_iff];omega
       by_cases c5:t.st<0
       ·simp[hq,e,c5,show ¬(0≤t.st) by omega]
       ·by_cases c6:bd<t.st
        ·simp[hq,e,c5,c6,show ¬(t.st≤bd) by omega]
        ·by_cases c7:t.ch<0
         ·simp[hq,e,c5,c6,c7,show ¬(0≤t.ch) by omega]
         ·by_cases c8:7<t.ch
          ·simp[hq,e,c5,c6,c7,c8,show ¬(t.ch≤7) by omega]
          ·simp only[show decide (0≤t.st∧t.st≤bd)=true by simp;omega,show decide (0≤t.ch∧t.ch≤7)=true by simp;omega,Bool.true_and]at e;have c9:(d=4∧¬t.ch=0)∨(d=4∧t.ch=0)∨¬d=4:=by omega
           cases c11:incr t.hd
           ·rw[c11]at h3 e;rcases c9 with⟨c9,c10⟩|⟨c9,c10⟩|c9
            ·simp[hq,e,c5,c6,c7,c8,c9,c10,cd]
            ·simp[hq,e,c5,c6,c7,c8,c9,c10,cd,h3]
            ·simp[hq,e,c5,c6,c7,c8,c9,cd,h3]
           ·rw[c11]at h3 e;rcases c9 with⟨c9,c10⟩|c9
            ·simp[hq,e,c5,c6,c7,c8,c9,c10,cd]
            ·have e2:(decide (d≠4)||decide (t.ch=0))=true:=by simp;omega
             simp only[e2,Bool.true_and]at e
             rcases c9 with⟨c9,c10⟩|c9<;>(first|simp[hq,c5,c6,c7,c8,c9,c10,cd,h3]|simp[hq,c5,c6,c7,c8,c9,cd,h3])<;>simp only[zaa7] <;>
              refine (loop170_1 p t (by omega) _ (by first|simp[hq,c5,c6,c7,c8,c9,c10,cd,h3]|simp[hq,c5,c6,c7,c8,c9,cd,h3])).mono ?_ <;>
              (rintro⟨y,s⟩ hq2
               cases c12:t.hd.all (okH p)<;>rw[c12]at hq2 e
               ·simp only[Bool.false_eq_true,if_false,oQ_s]at hq2;obtain⟨rfl,hq2⟩:=hq2;simp[hq2,e]
               ·simp only[if_true,oQ_n,Bool.true_and]at hq2 e;obtain⟨rfl,hq2⟩:=hq2;by_cases c13:t.ph=0
                ·simp[hq2,e,c13]
                ·rcases hi:insT p t with _|i<;>rw[hi]at h2 e<;>simp only[insP]at h2
                 ·by_cases c14:t.ph=1
                  ·simp[hq2,e,c13,c14,h2]
                  ·by_cases c15:t.ph=2<;>simp[hq2,e,c13,c14,c15,h2]
                 ·have h4:=run224 t.hd i.n (by omega);by_cases c16:i.op=18<;>by_cases c14:t.ph=1<;>by_cases c15:t.ph=2<;>simp[hq2,e,c13,c14,c15,c16,h2,h4])
end Go.Am.E

set_option maxRecDepth 10000
set_option maxHeartbeats 4000000
namespace Go.Am.E
open Go.Proofs Go.Ex Go.Rc
attribute [-simp] splice
attribute [local simp] zma7 MsD
def mgE (s:Ra) (x:Nat) (i:Nat) (m:Msg):Bool:=decide (0≤m.ev∧m.ev<s.ev.length)&&decide ((gt2 s.mo x)[i]?=some m.ev)&&!((gt2 s.mo x).take i).contains m.ev &&
  (match s.ev[m.ev.toNat]? with
  |none=>false
  |some e=>(decide (e.kind=2)||decide (e.kind=5))&&decide (e.obj=x)&&decide (e.wr=m.val)&&okV m.val)
theorem gdM_eq (s:Ra) (x:Nat):gdM s x=(decide ((gt2 s.ms x).length=(gt2 s.mo x).length)&&alI (mgE s x) (gt2 s.ms x) 0):=rfl
theorem run74 (s:Ra) (x:Nat) (hx:x<s.ms.length) (hx2:x<s.mo.length) (hl:(gt2 s.ms x).length<1000000000) (hl2:(gt2 s.mo x).length<1000000000):K 74 [.dat (RaD s),.dat (N x)] []=some (.dat (.bool (gdM s x)),[]):=ce rfl (by
 have hx1:=List.getElem?_eq_getElem hx;have hg:=zwd7 hx1;obtain⟨x2,x3,x4⟩:=zca7 hx1;have hy1:=List.getElem?_eq_getElem hx2;have hgy:=zwd7 hy1;obtain⟨y2,y3,y4⟩:=zca7 hy1;rw[gdM_eq,hg,hgy];rw[hg]at hl;rw[hgy]at hl2
 have hmg:∀i m,mgE s x i m=(decide (0≤m.ev∧m.ev<s.ev.length)&&decide ((s.mo[x])[i]?=some m.ev)&&!((s.mo[x]).take i).contains m.ev &&
  (match s.ev[m.ev.toNat]? with
  |none=>false
  |some e=>(decide (e.kind=2)||decide (e.kind=5))&&decide (e.obj=x)&&decide (e.wr=m.val)&&okV m.val)):=fun i m=>by rw[mgE,hgy]
 generalize s.ms[x]=l at *
 generalize s.mo[x]=o at *
 by_cases h0:l.length=o.length;rotate_left
 ·have h0':¬(l.length:Int)=o.length:=by omega
  simp[hx1,x2,x3,x4,hy1,y2,y3,y4,h0,h0']
 simp[hx1,x2,x3,x4,hy1,y2,y3,y4,h0];simp only[zaa7]
 refine (zeb7 (live:=[1,2,26,27,28]) (drop:=[2,26]) l (by omega) (fun k=>⟨[(1,.dat (N x)),(2,.ref ((3,0),0,0) 0),(26,.dat (.sl (l.map MsD))),(27,.dat (N l.length)),(28,.dat (N k))],[((3,0),.plain (.box ((RaDl s).map AVal.dat)))]⟩)
  (fun k=>bQ (fun q=>q.1=.exit 0∧∃os,hd [] [] q.2=some ⟨[],os⟩) (RQ 4) (alI (mgE s x) (l.drop k) k)) (fun i m st g1 g2 g3 ix hs=>?_) (fun st hs=>?_) _ (by simp[h0])).mono ?_
 ·have hdr:=alI_drop (f:=mgE s x) g1;have hi:=(zca7 g1).2.2;have hio:i<o.length:=by omega
  have hio2:(i:Int)<o.length:=by omega
  have hio3:(i:Int)≤o.length:=by omega
  have hio4:i≤o.length:=by omega
  have ho:=List.getElem?_eq_getElem hio;obtain⟨o2,o3,o4⟩:=zca7 ho;have hev:=hmg i m;have h42:=run42 (o.take i) m.ev (by simp;omega);have hmp:((o.take i).map N)=(o.map N).take i:=by rw[List.map_take]
  have h100:=run100 m.val;have hwv:=w32_okV m.val;generalize o[i]=oi at *
  generalize mgE s x i m=r at *
  obtain⟨ev,vl,vw⟩:=m;dsimp only at hev h42 h100 hwv;rw[ho]at hev;simp only[Ns,List.map_take]at h42;by_cases c1:ev<0
  ·have c1':¬0≤ev:=by omega
   simp[c1']at hev;simp[hs,hdr,hev,g1,g2,g3,ix,c1]
  ·obtain⟨en,rfl⟩:=Int.eq_ofNat_of_zero_le (show 0≤ev by omega);by_cases c2:(s.ev.length:Int)≤en
   ·have c2':¬(en:Int)<s.ev.length:=by omega
    simp[c2']at hev;simp[hs,hdr,hev,g1,g2,g3,ix,c1,c2]
   ·have c2':(en:Int)<s.ev.length:=by omega
    by_cases c3:(en:Int)=oi
    ·subst c3;cases c4:((o.take i).contains (en:Int))
     ·rw[c4]at h42 hev;have hen:en<s.ev.length:=by omega
      have he:=List.getElem?_eq_getElem hen;obtain⟨e2,e3,e4⟩:=zca7 he;generalize s.ev[en]=e at *
      simp only[Int.toNat_natCast,he]at hev;obtain⟨ag,idx,kind,obj,mux,ent,ord,rd,wr⟩:=e;dsimp only at hev
      have hk:(decide (kind=2)||decide (kind=5))=true∨(kind≠2∧kind≠5):=by
       by_cases k2:kind=2
       ·simp[k2]
       ·by_cases k5:kind=5
        ·simp[k5]
        ·exact .inr ⟨k2,k5⟩
      rcases hk with hk|⟨k2,k5⟩
      ·rw[hk]at hev;have hkk:kind=2∨kind=5:=by simpa using hk
       by_cases c5:obj=x
       ·by_cases c6:wr=vl
        ·subst c5 c6;cases c7:okV wr
         ·rw[c7]at hev hwv;have hwv:¬w32 wr=wr:=by simpa using hwv
          simp[c2']at hev;rcases hkk with rfl|rfl <;>
          simp[hs,hdr,hev,g1,g2,g3,ix,c1,c2,c2',hy1,y2,y3,y4,ho,o2,o3,o4,hio,hio2,hio3,hio4,h42,he,e2,e3,e4,h100,hwv,YID,pairK,zyc7,chgOf,slim,sameAt,TObj.same,Obj.same,sameAll,AVal.same,Dat.eqv,meets,updT]
         ·rw[c7]at hev hwv;have hwv:w32 wr=wr:=by simpa using hwv
          simp[c2']at hev;rcases hkk with rfl|rfl <;>
          simp[hs,hdr,hev,g1,g2,g3,ix,c1,c2,c2',hy1,y2,y3,y4,ho,o2,o3,o4,hio,hio2,hio3,hio4,h42,he,e2,e3,e4,h100,hwv,YID,pairK,zyc7,chgOf,slim,sameAt,TObj.same,Obj.same,sameAll,AVal.same,Dat.eqv,meets,updT]
        ·subst c5;simp[c6]at hev;rcases hkk with rfl|rfl <;>
         simp[hs,hdr,hev,g1,g2,g3,ix,c1,c2,c2',hy1,y2,y3,y4,ho,o2,o3,o4,hio,hio2,hio3,hio4,h42,he,e2,e3,e4,c6,YID,pairK,zyc7,chgOf,slim,sameAt,TObj.same,Obj.same,sameAll,AVal.same,Dat.eqv,meets,updT]
       ·simp[c5]at hev;rcases hkk with rfl|rfl <;>
        simp[hs,hdr,hev,g1,g2,g3,ix,c1,c2,c2',hy1,y2,y3,y4,ho,o2,o3,o4,hio,hio2,hio3,hio4,h42,he,e2,e3,e4,c5,YID,pairK,zyc7,chgOf,slim,sameAt,TObj.same,Obj.same,sameAll,AVal.same,Dat.eqv,meets,updT]
      ·simp[k2,k5]at hev;simp[hs,hdr,hev,g1,g2,g3,ix,c1,c2,c2',hy1,y2,y3,y4,ho,o2,o3,o4,hio,hio2,hio3,hio4,h42,he,e2,e3,e4,k2,k5,YID,pairK,zyc7,chgOf,slim,sameAt,TObj.same,Obj.same,sameAll,AVal.same,Dat.eqv,meets,updT]
     ·rw[c4]at h42 hev;simp at hev;simp[hs,hdr,hev,g1,g2,g3,ix,c1,c2,c2',hy1,y2,y3,y4,ho,o2,o3,o4,hio,hio2,hio3,hio4,h42]
    ·have c3':¬oi=(en:Int):=fun e=>c3 e.symm
     simp[c3']at hev;simp[hs,hdr,hev,g1,g2,g3,ix,c1,c2,c2',c3,hy1,y2,y3,y4,ho,o2,o3,o4,hio,hio2,hio3,hio4]
 ·simp[hs,alI]
 ·rw[List.drop_zero];generalize alI (mgE s x) l 0=B;rintro⟨y,st⟩ hq;cases B with
  |false=>
   obtain⟨rfl,hq⟩:=hq;simp[hq]
  |true=>
   obtain⟨rfl,os,hq⟩:=hq;dsimp only at hq;simp[hq])
end Go.Am.E

set_option maxRecDepth 10000
set_option maxHeartbeats 4000000
namespace Go.Am.E
open Go.Proofs Go.Ex Go.Rc
attribute [-simp] splice
attribute [local simp] zma7
theorem run175 (t:Th) (s f:Int):K 175 [.dat (TD t),.dat (N s),.dat (N f)] []=some (.dat (TD (endT t s f)),[]):=ce rfl (by simp[endT])
theorem run172 (t:Th) (i:In) (hb:Tb t):K 172 [.dat (TD t),.dat (ID i)] []=some (.dat (N (obs t i)),[]):=by
 obtain⟨hid,hhd⟩:=hb;have h1:=run163 t hid;have h2:=run224 t.hd i.n (by omega);have h3:=run224 t.hd i.o (by omega);refine ce rfl ?_;unfold obs;by_cases c1:t.ph=0
 ·by_cases c2:i.op=18
  ·cases c3:t.hd.contains i.n<;>rw[c3]at h2<;>simp[c1,c2,h2]
  ·by_cases c4:i.op=16
   ·cases c3:t.hd.contains i.o<;>rw[c3]at h3<;>simp[c1,c2,c4,h3]
   ·by_cases c5:i.op=21
    ·rcases c3:chd t with _|c<;>simp only[chdP,c3]at h1<;>simp[c1,c2,c4,c5,h1]
    ·simp[c1,c2,c4,c5]
 ·simp[c1]
theorem w32_mod {a b:Int} (h:a % 4294967296=b % 4294967296):w32 a=w32 b:=by unfold w32;rw[h]
theorem bit64 (f:Nat→Nat→Nat) (hf:∀a b:Nat,f a b % 2 ^ 32=f (a % 2 ^ 32) (b % 2 ^ 32)) (x y:Int) (n:Nat) (hn:n=f (BitVec.ofInt 64 x).toNat (BitVec.ofInt 64 y).toNat):
  w32 (IntKind.wrap .i64 (n:Int))=bitw f x y:=by
 unfold bitw
 have h1:IntKind.wrap .i64 (n:Int) % 4294967296=(n:Int) % 4294967296:=by
  have:IntKind.wrap .i64 (n:Int)=if (n:Int) % 2 ^ 64≥2 ^ 63 then (n:Int) % 2 ^ 64-2 ^ 64 else (n:Int) % 2 ^ 64:=by simp[IntKind.wrap,IntKind.bits,IntKind.signed]
  rw[this];split<;>omega
 refine w32_mod (h1.trans ?_);have e1:(BitVec.ofInt 64 x).toNat % 2 ^ 32=(x % 4294967296).toNat:=by rw[BitVec.toNat_ofInt];omega
 have e2:(BitVec.ofInt 64 y).toNat % 2 ^ 32=(y % 4294967296).toNat:=by rw[BitVec.toNat_ofInt];omega
 have h2:=hf (BitVec.ofInt 64 x).toNat (BitVec.ofInt 64 y).toNat;rw[e1,e2,←hn]at h2;have h3:=hf (x % 4294967296).toNat (y % 4294967296).toNat;rw[Nat.mod_eq_of_lt (by omega),Nat.mod_eq_of_lt (by omega)]at h3;omega
theorem run142 (f a b:Int):K 142 [.dat (N f),.dat (N a),.dat (N b)] []=some (.tup [.dat (N (Go.Ex.appF f a b)),.dat (N (appE f))],[]):=by
 refine ce rfl ?_;have ha:=run100 a;have hb:=run100 b;unfold Go.Ex.appF;have va:=w32_isVal a;have vb:=w32_isVal b;generalize w32 a=x at *
 generalize w32 b=y at *
 by_cases h:1≤f∧f≤10
 ·have hf:f=1∨f=2∨f=3∨f=4∨f=5∨f=6∨f=7∨f=8∨f=9∨f=10:=by omega
  rcases hf with rfl|rfl|rfl|rfl|rfl|rfl|rfl|rfl|rfl|rfl
  ·have w:IntKind.wrap .i64 (x+y)=x+y:=by unfold isVal at *;exact wrap_i64 (by omega) (by omega)
   simp[ha,hb,run100,appE,w]
  ·have w:IntKind.wrap .i64 (x-y)=x-y:=by unfold isVal at *;exact wrap_i64 (by omega) (by omega)
   simp[ha,hb,run100,appE,w]
  ·have w:IntKind.wrap .i64 (x*y)=x*y:=by
    have h1:x.natAbs≤2147483648:=by unfold isVal at va;omega
    have h2:y.natAbs≤2147483648:=by unfold isVal at vb;omega
    have h3:=Nat.mul_le_mul h1 h2;rw[←Int.natAbs_mul]at h3;exact wrap_i64_all (by omega) (by omega)
   simp[ha,hb,run100,appE,w]
  ·have w:=bit64 (· &&& ·) (fun a b=>Nat.and_mod_two_pow) x y _ (BitVec.toNat_and _ _);simp at w;have iA:intE .and .i64 x y=some (.dat (.int .i64 (IntKind.wrap .i64 ((BitVec.ofInt 64 x &&& BitVec.ofInt 64 y).toNat)))):=rfl;simp[ha,hb,run100,appE,iA,w]
  ·have w:=bit64 (· ||| ·) (fun a b=>Nat.or_mod_two_pow) x y _ (BitVec.toNat_or _ _);simp at w;have iA:intE .or .i64 x y=some (.dat (.int .i64 (IntKind.wrap .i64 ((BitVec.ofInt 64 x ||| BitVec.ofInt 64 y).toNat)))):=rfl;simp[ha,hb,run100,appE,iA,w]
  ·have w:=bit64 (· ^^^ ·) (fun a b=>Nat.xor_mod_two_pow) x y _ (BitVec.toNat_xor _ _);simp at w;have iA:intE .xor .i64 x y=some (.dat (.int .i64 (IntKind.wrap .i64 ((BitVec.ofInt 64 x ^^^ BitVec.ofInt 64 y).toNat)))):=rfl;simp[ha,hb,run100,appE,iA,w]
  ·simp[ha,hb,run214,appE]
  ·simp[ha,hb,run214,appE]
  ·simp[ha,hb,run214,appE]
  ·simp[ha,hb,run214,appE]
 ·have hf:f≠1∧f≠2∧f≠3∧f≠4∧f≠5∧f≠6∧f≠7∧f≠8∧f≠9∧f≠10:=by omega
  simp[ha,hb,hf,appE,h]
end Go.Am.E

set_option maxRecDepth 10000
set_option maxHeartbeats 4000000
namespace Go.Am.E
open Go.Proofs Go.Ex Go.Rc
attribute [-simp] splice
attribute [local simp] zma7
def cv {α:Type} (l:List α):Nat:=min 1 l.length
theorem ce_split {f:FuncId} {fn:AFun} (hf:tblE.fn f=some fn) (hs:fn.split=some 0) {l:List Dat} {r:AVal×List TObj} (h0:l=[]→Ev (zed7 K fn [.emp true] []) (·=r)∧Ev (zed7 K fn [.emp false] []) (·=r))
  (h1:∀a m,l=a::m→Ev (zed7 K fn [.dat (.sl (a::m))] []) (·=r)) (hne:f≠YID:=by decide):K f [.dat (.sl l)] []=some r:=by
 refine callT_of hf ?_ hne;unfold runS;rw[hs];cases l with
 |nil=>
  obtain⟨g1,g2⟩:=h0 rfl;have g1:=g1.eq;have g2:=g2.eq;simp only[List.getElem?_cons_zero,isEmp,if_true,List.set_cons_zero,g1,g2]
 |cons a m=>
  have g:=(h1 a m rfl).eq;simp only[List.getElem?_cons_zero,isEmp,if_false,g,Bool.false_eq_true]
theorem run174 (l:List Int) (h:l.length<10000000000):K 174 [.dat (Ns l)] []=some (.rsl ((0,0),0,0) (cv l) 1 0 l.length,[.plain (.arr 1 (cv l) false (l.map N))]):=by
 refine ce_split rfl rfl (fun e=>?_) (fun a m e=>?_)
 ·have:l=[]:=by simpa using e
  subst this;simp[cv]
 ·cases l with
  |nil=>cases e
  |cons b l=>
   obtain⟨rfl,rfl⟩:=List.cons.inj e;have h2:(l.length+1)*9≤1099511627776:=by simp at h;omega
   simp[h2,cv]
theorem zjd7 (t:Th) {k:Nat} (h:k<8) (hh:3+k<(TDc t).length):(TDc t)[3+k]=.dat (N (t.rg k)):=by
 have:=TDc_get t (3+k);rw[zqb7 t h,List.getElem?_eq_getElem hh]at this;exact Option.some.inj this
def locP (t:Th) (i:In):AVal:=.tup [.dat (TD (locT t i).1),.dat (.bool (locT t i).2)]
def rgs (i:In):Prop:=(uk i.op 0=true→0≤i.a∧i.a<8)∧(uk i.op 1=true→0≤i.b∧i.b<8)∧(uk i.op 2=true→0≤i.c∧i.c<8)
theorem rg8 {n:Int} (h:0≤n∧n<8):∃k:Nat,n=k∧k<8∧(k:Int)<8∧3+k<17∧3+k≤16:=⟨n.toNat,by omega,by omega,by omega,by omega,by omega⟩
theorem run176 (t:Th) (i:In) (hp:0≤t.pc) (hp2:t.pc<100000000000) (hr:rgs i) (hf:i.op=3→1≤i.f∧i.f≤10):K 176 [.dat (TD t),.dat (ID i)] []=some (locP t i,[]):=by
 obtain⟨r1,r2,r3⟩:=hr;have w:IntKind.wrap .i64 (t.pc+1)=t.pc+1:=wrap_i64 (by omega) (by omega);refine ce rfl ?_;unfold locP locT;rcases opc i.op with h|h|h|h|h|h|h|h|h|h|h|h|h|h|h|h|h|h|h|h|h|h|h
 ·rw[h]at r1;obtain⟨k,hk,k1,k2,k3,k4⟩:=rg8 (r1 rfl);simp[h,w,hk,TDc_sr,setR,k1,k2,k3,k4]
 ·rw[h]at r1 r2;obtain⟨k,hk,k1,k2,k3,k4⟩:=rg8 (r1 rfl);obtain⟨j,hj,j1,j2,j3,j4⟩:=rg8 (r2 rfl);simp[h,w,hk,hj,TDc_sr,setR,k1,k2,k3,k4,j1,j2,j3,j4,zqb7,zjd7,reg]
 ·rw[h]at r1 r2 r3;obtain⟨k,hk,k1,k2,k3,k4⟩:=rg8 (r1 rfl);obtain⟨j,hj,j1,j2,j3,j4⟩:=rg8 (r2 rfl);obtain⟨m,hm,m1,m2,m3,m4⟩:=rg8 (r3 rfl);have e:appE i.f=0:=if_pos (hf h);simp[h,w,hk,hj,hm,TDc_sr,setR,k1,k2,k3,k4,j1,j2,j3,j4,m1,m2,m3,m4,zqb7,zjd7,reg,run142,e]
 ·simp[h]
 ·rw[h]at r2;obtain⟨j,hj,j1,j2,j3,j4⟩:=rg8 (r2 rfl);by_cases c:t.rg j=0
  ·simp[h,w,hj,j1,j2,j3,j4,zqb7,zjd7,reg,c]
  ·simp[h,hj,j1,j2,j3,j4,zqb7,zjd7,reg,c]
 ·rw[h]at r2;obtain⟨j,hj,j1,j2,j3,j4⟩:=rg8 (r2 rfl);by_cases c:t.rg j=0
  ·simp[h,w,hj,j1,j2,j3,j4,zqb7,zjd7,reg,c,run175]
  ·simp[h,w,hj,j1,j2,j3,j4,zqb7,zjd7,reg,c]
 ·simp[h,w,run175]
 all_goals simp[h,w]
end Go.Am.E

set_option maxRecDepth 10000
set_option maxHeartbeats 4000000
namespace Go.Am.E
open Go.Proofs Go.Ex Go.Rc
attribute [-simp] splice
attribute [local simp] zma7
theorem fst0_all:∀{l:List Int},fst0 l=0→∀e∈l,e=0
 |[],_,e,h=>by cases h
 |a::r,h,e,he=>by
  simp only[fst0]at h;split at h
  ·rename_i h1;rcases List.mem_cons.1 he with rfl|he
   ·exact h1
   ·exact fst0_all h e he
  ·exact absurd h ‹_›
theorem chP_ins {p:Pg} (h:chP p=0) {F:Str×List In} (hF:F∈p.fs) {i:In} (hi:i∈F.2):insE p F.2.length i=0∧F.2.length≤64:=by
 have h1:=fst0_all h (codE p) (by simp);have h2:=fst0_all h1 (funE p F) (List.mem_map.2 ⟨F,hF,rfl⟩);unfold funE at h2;split at h2
 ·cases h2
 ·exact⟨fst0_all h2 _ (List.mem_map.2 ⟨i,hi,rfl⟩),by omega⟩
theorem chI_ok {i:In} (h:chI i=0):kn i.op=true∧rgs i∧(i.op=3→1≤i.f∧i.f≤10)∧(i.op=14→1≤i.f∧i.f≤10)∧(i.op=1→isVal i.n):=by
 unfold chI at h;split at h
 ·cases h
 rename_i h1;split at h
 ·cases h
 split at h
 ·cases h
 rename_i h2;split at h
 ·cases h
 split at h
 ·cases h
 rename_i h3;split at h
 ·cases h
 rename_i h4;have h1:kn i.op=true:=by simpa using h1
 simp only[Bool.or_eq_true,Bool.and_eq_true,Bool.not_eq_true',not_or,not_and,Bool.not_eq_false,isReg,decide_eq_true_eq]at h2 h3;refine⟨h1,⟨h2.1.1,h2.1.2,h2.2⟩,fun e=>?_,fun e=>?_,fun e=>?_⟩
 ·have:=h3 (by rw[e];rfl);simpa using this
 ·have:=h3 (by rw[e];rfl);simpa using this
 ·simp only[e,true_and]at h4;exact Classical.not_not.1 h4
theorem zde7 {p:Pg} {n:Nat} {i:In} (h:insE p n i=0):chI i=0∧(i.op=4∨i.op=5→0≤i.n∧i.n≤n)∧(0≤nob p i.op→0≤i.o∧i.o<nob p i.op)∧(i.op=18→0≤i.n∧i.n<p.ms.length):=by
 unfold insE at h;split at h
 ·exact absurd h ‹_›
 rename_i h1;split at h
 ·cases h
 split at h
 ·cases h
 split at h
 ·cases h
 refine⟨by omega,by omega,by omega,by omega⟩
structure Rn (p:Pg) (t:Th):Prop where
 i:InP p t
 b:Tb t
 pc:t.pc≤(codeT p t).length
theorem insT_ok {p:Pg} {t:Th} {i:In} (hp:chP p=0) (h:InP p t) (hi:insT p t=some i):insE p (codeT p t).length i=0∧(codeT p t).length≤64∧t.pc<(codeT p t).length:=by
 obtain⟨F,h1,h2,h3⟩:=codeT_get h;unfold insT at hi;rw[h3]at hi ⊢;have:=chP_ins hp (List.mem_of_getElem? h1) (List.mem_of_getElem? hi);have h4:=(List.getElem?_eq_some_iff.1 hi).1;have h5:=h.p0;exact⟨this.1,by omega,by omega⟩
theorem codeT_fn {p:Pg} {t u:Th} (h:u.fn=t.fn):codeT p u=codeT p t:=by unfold codeT;rw[h]
theorem locT_same (t:Th) (i:In):(locT t i).1.id=t.id∧(locT t i).1.fn=t.fn∧(locT t i).1.hd=t.hd:=by
 unfold locT
 repeat' split
 all_goals exact⟨rfl,rfl,rfl⟩
theorem locT_pc (t:Th) (i:In):(locT t i).1.pc=t.pc∨(locT t i).1.pc=t.pc+1∨((i.op=4∨i.op=5)∧(locT t i).1.pc=i.n):=by
 unfold locT
 repeat' split
 all_goals first|exact .inl rfl|exact .inr (.inl rfl)|exact .inr (.inr ⟨.inl ‹_›,rfl⟩)|exact .inr (.inr ⟨.inr ‹_›,rfl⟩)|exact .inr (.inr ⟨.inr (by assumption),rfl⟩)
theorem locT_rn {p:Pg} {t:Th} {i:In} (hp:chP p=0) (h:Rn p t) (hi:insT p t=some i):Rn p (locT t i).1:=by
 obtain⟨h1,h2,h3⟩:=locT_same t i;obtain⟨g1,g2,g3⟩:=insT_ok hp h.i hi;have g4:=(zde7 g1).2.1;have hpc:=locT_pc t i;have h0:=h.i.p0;refine⟨⟨by rw[h2];exact h.i.f0,by rw[h2];exact h.i.f1,by omega⟩,⟨by rw[h1];exact h.b.id,by rw[h3];exact h.b.hd⟩,?_⟩;rw[codeT_fn h2];omega
abbrev Z17:TObj:=.plain (.box [.dat (N 0),.dat (N 0),.dat (N 0),.dat (N 0),.dat (N 0),.dat (N 0),.dat (N 0),.dat (N 0),.dat (N 0),.dat (N 0),.dat (N 0),.dat (N 0),.dat (N 0),.dat (N 0),.dat (N 0),.dat (N 0),.nils])
abbrev E245 (bd:Int) (n:Nat):Env:=[(1,.dat (N bd)),(3,.ref ((4,0),0,0) 0),(5,.ref ((6,0),0,0) 0),(6,.ref ((7,0),0,0) 0),(7,.dat (N n))]
abbrev X245 (p:Pg) (t:Th):zsa7:=[((4,0),.plain (.box ((PDl p).map AVal.dat))),((6,0),.plain (.box (TDc t))),((7,0),Z17)]
def P245 (r:Th) (q:AEx×St):Prop:=q.1=.ret∧endK [.cell 6 17 true] false 0 q=some (.dat (TD r),[])
theorem set_loop (p:Pg) (hp:chP p=0) (bd:Int):∀(k n:Nat) (t:Th) (s:St),n+k=256→Rn p t→hd [1,3,5,6,7] [3,5,6] s=some ⟨E245 bd n,X245 p t⟩→Ev (zga7 (exec K l102_0) s) (P245 (setl p bd k t))
 |k,n,t,s,hk,hr,hs=>by
  have h1:=run91 p t hr.i;rw[setl];cases c0:insT p t with
  |none=>
   apply zya7;rw[c0]at h1;simp only[insP]at h1;simp[P245,hs,h1,run175]
  |some i=>
   rw[c0]at h1;simp only[insP]at h1;have h2:=run171 i.op;have h3:=run172 t i hr.b;cases c1:vis i.op
   ·rw[c1]at h2;simp only[c1,Bool.false_eq_true,if_false];cases k with
    |zero=>
     apply zya7;have h4:n=256:=by omega
     subst h4;simp[P245,hs,h1,h2,run175]
    |succ k=>
     have h4:¬(n:Int)=256:=by omega
     have h4':¬n=256:=by omega
     obtain⟨g1,g2,g3⟩:=insT_ok hp hr.i c0;have g4:=(chI_ok (zde7 g1).1);have h5:=run176 t i hr.i.p0 (by omega) g4.2.1 g4.2.2.1;have hn:=locT_rn hp hr c0;have ix:Ix n:=by unfold Ix;omega
     rcases c2:locT t i with⟨u,b⟩;rw[c2]at hn;simp only[locP,c2]at h5;simp only[c2];apply zya7;cases b
     ·simp[P245,hs,h1,h2,h4,h4',h5]
     ·simp[hs,h1,h2,h4,h4',h5,ix];exact set_loop p hp bd k (n+1) u _ (by omega) hn (by simp)
   ·rw[c1]at h2;simp only[c1,if_true];apply zya7;rcases Classical.propComplete (obs t i=0) with c2|c2
    ·by_cases c3:t.st=bd
     ·simp[P245,hs,h1,h2,h3,c2,c3,run175]
     ·simp[P245,hs,h1,h2,h3,c2,c3]
    ·simp[P245,hs,h1,h2,h3,c2,run175]
end Go.Am.E

set_option maxRecDepth 10000
set_option maxHeartbeats 4000000
namespace Go.Am.E
open Go.Proofs Go.Ex Go.Rc
attribute [-simp] splice
attribute [local simp] zma7
def TDr (t:Th) (v:Nat):List AVal:=(TDc t).take 16++[.rsl ((6,1),0,0) v 1 0 t.hd.length]
theorem TDr_unf (t:Th) (v:Nat):TDr t v=[.dat (N t.id),.dat (N t.fn),.dat (N t.pc),.dat (N (t.rg 0)),.dat (N (t.rg 1)),.dat (N (t.rg 2)),.dat (N (t.rg 3)),.dat (N (t.rg 4)),.dat (N (t.rg 5)),.dat (N (t.rg 6)),.dat (N (t.rg 7)),.dat (N t.st),.dat (N t.ch),.dat (N t.ph),.dat (N t.ss),.dat (N t.ft),.rsl ((6,1),0,0) v 1 0 t.hd.length]:=rfl
theorem zcd7 (t:Th):TDl t=[N t.id,N t.fn,N t.pc,N (t.rg 0),N (t.rg 1),N (t.rg 2),N (t.rg 3),N (t.rg 4),N (t.rg 5),N (t.rg 6),N (t.rg 7),N t.st,N t.ch,N t.ph,N t.ss,N t.ft,Ns t.hd]:=rfl
theorem TDc_unf (t:Th):TDc t=[.dat (N t.id),.dat (N t.fn),.dat (N t.pc),.dat (N (t.rg 0)),.dat (N (t.rg 1)),.dat (N (t.rg 2)),.dat (N (t.rg 3)),.dat (N (t.rg 4)),.dat (N (t.rg 5)),.dat (N (t.rg 6)),.dat (N (t.rg 7)),.dat (N t.st),.dat (N t.ch),.dat (N t.ph),.dat (N t.ss),.dat (N t.ft),.dat (Ns t.hd)]:=rfl
theorem TDc_s16r (t:Th) (v:AVal):splice (TDc t) 16 [v]=(TDc t).take 16++[v]:=by rw[TDc_unf];rfl
abbrev X245r (p:Pg) (t:Th):zsa7:=[((4,0),.plain (.box ((PDl p).map AVal.dat))),((6,0),.plain (.box (TDr t (cv t.hd)))),((7,0),Z17),((6,1),.plain (.arr 1 (cv t.hd) false (t.hd.map N)))]
theorem set_first (p:Pg) (hp:chP p=0) (bd:Int) (t:Th) (s:St) (hr:Rn p t) (hs:hd [1,3,5,6,7] [3,5,6] s=some ⟨E245 bd 0,X245r p t⟩):Ev (zga7 (exec K l102_0) s) (P245 (setl p bd 256 t)):=by
 have h1:=run91 p t hr.i;have hh:=hr.b.hd;rw[setl];apply zya7;cases c0:insT p t with
 |none=>
  rw[c0]at h1;simp only[insP,TD,zcd7]at h1;have h6:=run175 t 2 0;simp only[TD,zcd7 t]at h6;simp[P245,hs,h1,h6,TDr_unf]
 |some i=>
  rw[c0]at h1;simp only[insP,TD,zcd7]at h1;have h2:=run171 i.op;have h3:=run172 t i hr.b;simp only[TD,zcd7]at h3;cases c1:vis i.op
  ·rw[c1]at h2;simp only[c1,Bool.false_eq_true,if_false];obtain⟨g1,g2,g3⟩:=insT_ok hp hr.i c0;have g4:=(chI_ok (zde7 g1).1);have h5:=run176 t i hr.i.p0 (by omega) g4.2.1 g4.2.2.1;have hn:=locT_rn hp hr c0;rcases c2:locT t i with⟨u,b⟩;rw[c2]at hn;simp only[locP,c2,TD,zcd7 t]at h5
   try simp only[c2]
   cases b
   ·simp[P245,hs,h1,h2,h5,TDr_unf]
   ·simp[hs,h1,h2,h5,TDr_unf];exact set_loop p hp bd 255 1 u _ (by omega) hn (by simp)
  ·rw[c1]at h2;simp only[c1,if_true];rcases Classical.propComplete (obs t i=0) with c2|c2
   ·by_cases c3:t.st=bd
    ·have h6:=run175 t 4 0;simp only[TD,zcd7 t]at h6;subst c3;simp[P245,hs,h1,h2,h3,c2,h6,TDr_unf]
    ·simp[P245,hs,h1,h2,h3,c2,c3,TDr_unf,zcd7]
   ·have h6:=run175 t 3 (obs t i);simp only[TD,zcd7 t]at h6;simp[P245,hs,h1,h2,h3,c2,h6,TDr_unf]
theorem run102 (p:Pg) (hp:chP p=0) (bd:Int) (t:Th) (hr:Rn p t):K 102 [.dat (PD p),.dat (N bd),.dat (TD t)] []=some (.dat (TD (setl p bd 256 t)),[]):=by
 have hh:=hr.b.hd;have h1:=run174 t.hd (by omega);refine ce rfl ?_;simp[h1,TDc_s16r];simp only[zaa7];refine (set_first p hp bd t _ hr (by simp[h1,TDc_s16r,TDc_unf,TDr_unf])).mono ?_;rintro⟨y,s⟩ ⟨rfl,hq⟩;simp[hq]
end Go.Am.E
