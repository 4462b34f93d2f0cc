/- Parts of the proofs of the statement, joined and made short: V15 V16 V17 V18 V11 VQ VR V19 V20 V23 V24 V21 V22 EW34 EW35 EW36 EW37 EW38 V25 EW39 EW40 EW41 EW42 V26 V5 V6 VT. -/
import Derived.Test.YtmoibjjpfemgjaaGreatDoorP20
import Derived.Test.YtmoibjjpfemgjaaGreatDoorP19
import Derived.Test.YtmoibjjpfemgjaaGreatDoorP12
import Derived.Test.YtmoibjjpfemgjaaGreatDoorP16
set_option linter.unusedVariables false
set_option linter.unusedSimpArgs false
set_option linter.unusedSectionVars false
set_option maxRecDepth 10000
set_option maxHeartbeats 16000000
namespace Go.Am.E
open Go.Proofs Go.Ex Go.Rc
attribute [local simp] MsD
structure Stq where
 p:Pg
 bd:Int
 s:Ra
 ix:Int
 ch:Int
 i:In
 e:Evt
 rf:Int
 re:Int
 er:Int
 tv:Nat
 mp:Nat
 vp:Nat
 lp:Nat
 sp:Nat
 op:Nat
@[simp] def n0 (j:Nat):Nat:=j
def xj:Bool→Nat→Nat
 |true,j=>j+4
 |false,j=>j
@[simp] theorem xj_t (j:Nat):xj true j=j+4:=rfl
@[simp] theorem xj_f (j:Nat):xj false j=j:=rfl
abbrev xS (x:Stq) (c:Nat→Nat):Bool→List AVal
 |true=>[.rsl ((0,c 1),0,0) x.tv 17 0 x.s.th.length,.rsl ((0,c 2),0,0) 0 1 0 x.s.me.va.length,.rsl ((0,c 3),0,0) 0 1 0 x.s.me.ow.length,.rsl ((0,c 4),0,0) 0 1 0 x.s.me.qu.length,.rsl ((0,c 5),0,0) 0 1 0 x.s.me.sg.length,.rsl ((0,c 6),0,0) 0 1 0 x.s.ms.length,.rsl ((0,c 7),0,0) 0 1 0 x.s.vs.length,.rsl ((0,c 8),0,0) 0 1 0 x.s.lk.length,.rsl ((0,c 9),0,0) 0 1 0 x.s.sg.length,.rsl ((0,c 10),0,0) 0 9 0 x.s.ev.length,.rsl ((0,c 11),0,0) 0 1 0 x.s.rf.length,.rsl ((0,c 12),0,0) 0 1 0 x.s.mo.length]
 |false=>[.rsl ((0,c 1),0,0) x.tv 17 0 x.s.th.length,.dat (Ns x.s.me.va),.dat (Ns x.s.me.ow),.dat (.sl (x.s.me.qu.map Ns)),.dat (Ns x.s.me.sg),.rsl ((0,c 2),0,0) 0 1 0 x.s.ms.length,.rsl ((0,c 3),0,0) 0 1 0 x.s.vs.length,.rsl ((0,c 4),0,0) 0 1 0 x.s.lk.length,.rsl ((0,c 5),0,0) 0 1 0 x.s.sg.length,.rsl ((0,c 6),0,0) 0 9 0 x.s.ev.length,.rsl ((0,c 7),0,0) 0 1 0 x.s.rf.length,.rsl ((0,c 8),0,0) 0 1 0 x.s.mo.length]
abbrev xB (x:Stq) (c:Nat→Nat) (b:Bool):TObj:=.plain (.box ((PDl x.p).map AVal.dat++.dat (N x.bd)::xS x c b++.dat (N x.ix)::.dat (N x.ch)::[.dat (N x.i.op),.dat (N x.i.a),.dat (N x.i.b),.dat (N x.i.c),.dat (N x.i.o),.dat (N x.i.n),.dat (N x.i.f),.dat (N x.i.r),.dat (N x.e.ag),.dat (N x.e.idx),.dat (N x.e.kind),.dat (N x.e.obj),.dat (N x.e.mux),.dat (N x.e.ent),.dat (N x.e.ord),.dat (N x.e.rd),.dat (N x.e.wr),.dat (N x.rf),.dat (N x.re),.dat (N x.er)]))
abbrev xM (x:Stq):Bool→List TObj
 |true=>[aI 0 x.s.me.va,aI 0 x.s.me.ow,.fam 0 x.s.me.qu.length false (x.s.me.qu.map ownC),aI 0 x.s.me.sg]
 |false=>[]
abbrev xO (x:Stq) (c:Nat→Nat) (b:Bool):List TObj:=xB x c b::.plain (.arr 17 x.tv false (x.s.th.map TD))::xM x b++[.fam 0 x.mp false (x.s.ms.map cowM),.fam 0 x.vp false (x.s.vs.map ownC),.fam 0 x.lp false (x.s.lk.map ownC),.fam 0 x.sp false (x.s.sg.map ownC),.plain (.arr 9 0 false (x.s.ev.map ED)),aI 0 x.s.rf,.fam 0 x.op false (x.s.mo.map ownC)]
theorem run230 (x:Stq) (b:Bool):K 230 [.ref ((0,0),0,0) 0] (xO x n0 b)=some (.dat (N x.s.ev.length),xO x n0 b):=by
 cases b<;>exact ce rfl (by simp)
def setV (x:Stq) (k:Nat) (v:List Int):Stq:={ x with s:={ x.s with vs:=x.s.vs.set k v } }
abbrev enum (n:Nat):List TObj→zsa7
 |[]=>[]
 |o::r=>((0,n),o)::enum (n+1) r
inductive Vm|own|dat|lk (b:Bool)|sg|vs
@[simp] abbrev Vm.b:Vm→Bool
 |.own|.dat|.vs=>true
 |.lk b=>b
 |.sg=>false
@[simp] def nF (m:Vm) (j:Nat):Nat:=match m with
 |.own=>j+1
 |.dat|.vs=>if j=7 then 1 else if j<7 then j+1 else j
 |.lk b=>if j=xj b 3 then 1 else if j=xj b 4 then 2 else if j<xj b 3 then j+2 else j
 |.sg=>if j=3 then 1 else if j=5 then 2 else if j<5 then (if j<3 then j+2 else j+1) else j
@[simp] def nG (m:Vm) (j:Nat):Nat:=match m with
 |.own=>j+4
 |.dat|.vs=>if j=7 then 4 else if j<7 then j+4 else j+3
 |.lk b=>if j=xj b 4 then 4 else if j=xj b 3 then 5 else if j<xj b 3 then j+5 else j+3
 |.sg=>if j=5 then 4 else if j=3 then 5 else if j<5 then (if j<3 then j+5 else j+4) else j+3
abbrev fV (x:Stq):TObj:=.fam 0 x.vp false (x.s.vs.map ownC)
abbrev fM (x:Stq):TObj:=.fam 0 x.mp false (x.s.ms.map cowM)
abbrev fL (x:Stq):TObj:=.fam 0 x.lp false (x.s.lk.map ownC)
abbrev fS (x:Stq):TObj:=.fam 0 x.sp false (x.s.sg.map ownC)
abbrev aT (x:Stq):TObj:=.plain (.arr 17 x.tv false (x.s.th.map TD))
abbrev xE (x:Stq):List TObj:=[.plain (.arr 9 0 false (x.s.ev.map ED)),aI 0 x.s.rf,.fam 0 x.op false (x.s.mo.map ownC)]
@[simp] abbrev O96 (m:Vm) (x:Stq) (w:List Int):List TObj:=match m with
 |.own=>xB x (nF .own) true::aI 0 w::aT x::xM x true++fM x::fV x::fL x::fS x::xE x
 |.dat=>xB x (nF .dat) true::fV x::aT x::xM x true++fM x::fL x::fS x::xE x
 |.vs=>xB x (nF .vs) true::fV x::aT x::xM x true++fM x::fL x::fS x::xE x
 |.lk b=>xB x (nF (.lk b)) b::fV x::fL x::aT x::xM x b++fM x::fS x::xE x
 |.sg=>xB x (nF .sg) false::fV x::fS x::aT x::xM x false++fM x::fL x::xE x
@[simp] abbrev V96 (m:Vm) (x:Stq) (k n j:Nat):AVal:=match m with
 |.own=>.rsl ((0,j),0,0) 0 1 0 n
 |_=>.rsl ((0,j),k+1,0) x.vp 1 0 n
@[simp] abbrev W96 (m:Vm) (x:Stq) (i:Nat) (o:List Int) (j:Nat):AVal:=match m with
 |.lk _=>.rsl ((0,j),i+1,0) x.lp 1 0 o.length
 |.sg=>.rsl ((0,j),i+1,0) x.sp 1 0 o.length
 |.vs=>.rsl ((0,j),i+1,0) x.vp 1 0 o.length
 |_=>.dat (Ns o)
@[simp] abbrev jF:Vm→Nat
 |.vs=>1
 |_=>2
@[simp] abbrev iG:Vm→Nat
 |.lk _|.sg=>5
 |_=>4
@[simp] abbrev xV (m:Vm) (x:Stq) (k:Nat) (w:List Int):Stq:=match m with
 |.own=>x
 |_=>setV x k w
def R96 (m:Vm) (x:Stq) (k i:Nat) (v o:List Int):Prop:=match m with
 |.own=>True
 |.dat=>x.s.vs[k]?=some v
 |.lk _=>x.s.vs[k]?=some v∧x.s.lk[i]?=some o
 |.sg=>x.s.vs[k]?=some v∧x.s.sg[i]?=some o
 |.vs=>x.s.vs[k]?=some v∧x.s.vs[i]?=some o∧i≠k
@[simp] theorem mapM_d (l:List (List Msg)):List.map (Cell.dat∘cowM) l=l.map fun r=>.sl (r.map MsD):=rfl
@[simp] theorem mapC_d (l:List (List Int)):List.map (Cell.dat∘ownC) l=l.map Ns:=rfl
@[simp] abbrev O166 (m:Vm) (x:Stq) (k i n:Nat) (w o:List Int):List TObj:=.plain (.box [.ref ((0,3),0,0) 0])::.plain (.box [W96 m x i o 4])::.plain (.box [V96 m x k n (iG m)])::(match m with
 |.own=>xB x (nG .own) true::aI 0 w::aT x::xM x true++fM x::fV x::fL x::fS x::xE x
 |.dat=>xB x (nG .dat) true::fV x::aT x::xM x true++fM x::fL x::fS x::xE x
 |.vs=>xB x (nG .vs) true::fV x::aT x::xM x true++fM x::fL x::fS x::xE x
 |.lk b=>xB x (nG (.lk b)) b::fL x::fV x::aT x::xM x b++fM x::fS x::xE x
 |.sg=>xB x (nG .sg) false::fS x::fV x::aT x::xM x false++fM x::fL x::xE x)
theorem run166 (m:Vm) (x:Stq) (k i d:Nat) (v o:List Int) (w u:Int) (l:List Msg) (hR:R96 m x k i v o) (hw:v[d]?=some w) (hu:o[d]?=some u) (hl:x.s.ms[d]?=some l) (hll:l.length<1000000) (ix:Ix d):
  K 166 [.dat (N d),.ref ((0,0),0,0) 0,.ref ((0,1),0,0) 0,.ref ((0,2),0,0) 0] (O166 m x k i v.length v o)=some (.dat (.bool (decide (posM l w<posM l u))),O166 m x k i v.length v o):=by
 have h1:=run80 x.s d l hl (by omega) w;have h2:=run80 x.s d l hl (by omega) u;obtain⟨o1,o2,o3⟩:=zca7 hu;obtain⟨v1,v2,v3⟩:=zca7 hw;unfold R96 at hR;rcases m with _|_|b|_|_
 ·exact ce rfl (by simp[h1,h2,hu,o1,o2,o3,v1,v2,v3,hw,ix])
 ·exact ce rfl (by simp[h1,h2,hu,o1,o2,o3,v1,v2,v3,hw,hR,ix])
 ·cases b<;>exact ce rfl (by simp[h1,h2,hu,o1,o2,o3,v1,v2,v3,hw,hR.1,hR.2,ix])
 ·exact ce rfl (by simp[h1,h2,hu,o1,o2,o3,v1,v2,v3,hw,hR.1,hR.2,ix])
 ·exact ce rfl (by simp[h1,h2,hu,o1,o2,o3,v1,v2,v3,hw,hR.1,hR.2.1,ix])
def jnV (ms:List (List Msg)):List Int→List Int→Nat→List Int
 |a::v,b::o,i=>(if posM (gt2 ms i) a<posM (gt2 ms i) b then b else a)::jnV ms v o (i+1)
 |v,_,_=>v
end Go.Am.E

set_option maxRecDepth 10000
set_option maxHeartbeats 16000000
namespace Go.Am.E
open Go.Proofs Go.Ex Go.Rc
attribute [local simp] MsD
theorem zcb7 (ms:List (List Msg)):∀(v o:List Int) (i:Nat),(jnV ms v o i).length=v.length
 |a::v,b::o,i=>by simp[jnV,zcb7 ms v o (i+1)]
 |[],o,i=>by simp[jnV]
 |a::v,[],i=>by simp[jnV]
theorem jnV_get (ms:List (List Msg)):∀(v o:List Int) (i d:Nat) (a b:Int),v[d]?=some a→o[d]?=some b→(jnV ms v o i)[d]?=some (if posM (gt2 ms (i+d)) a<posM (gt2 ms (i+d)) b then b else a)
 |[],o,i,d,a,b,h1,h2=>by simp at h1
 |x::v,[],i,d,a,b,h1,h2=>by simp at h2
 |x::v,y::o,i,0,a,b,h1,h2=>by
  simp at h1 h2;subst h1 h2;simp[jnV]
 |x::v,y::o,i,d+1,a,b,h1,h2=>by
  simp at h1 h2;have:=jnV_get ms v o (i+1) d a b h1 h2;simp[jnV,this,show i+1+d=i+(d+1) by omega]
def midV (ms:List (List Msg)) (v o:List Int) (d:Nat):List Int:=(jnV ms v o 0).take d++v.drop d
theorem midV_len (ms:List (List Msg)) (v o:List Int) (d:Nat) (h:d≤v.length):(midV ms v o d).length=v.length:=by
 simp[midV,zcb7];omega
theorem midV_0 (ms:List (List Msg)) (v o:List Int):midV ms v o 0=v:=by simp[midV]
theorem midV_n (ms:List (List Msg)) (v o:List Int):midV ms v o v.length=jnV ms v o 0:=by
 simp only[midV,List.drop_length,List.append_nil];exact List.take_of_length_le (by rw[zcb7];omega)
theorem midV_get (ms:List (List Msg)) (v o:List Int) {d:Nat} {a:Int} (h:v[d]?=some a):(midV ms v o d)[d]?=some a:=by
 have hd:=(List.getElem?_eq_some_iff.1 h).1;have e:((jnV ms v o 0).take d).length=d:=by simp[zcb7];omega
 rw[midV,List.getElem?_append_right (by omega),e,Nat.sub_self,List.getElem?_drop];simpa using h
theorem midV_s (ms:List (List Msg)) (v o:List Int) {d:Nat} {a b:Int} (h1:v[d]?=some a) (h2:o[d]?=some b):midV ms v o (d+1)=(midV ms v o d).set d (if posM (gt2 ms d) a<posM (gt2 ms d) b then b else a):=by
 have hd:=(List.getElem?_eq_some_iff.1 h1).1;have e:((jnV ms v o 0).take d).length=d:=by simp[zcb7];omega
 have hj:=jnV_get ms v o 0 d a b h1 h2;rw[Nat.zero_add]at hj;unfold midV;rw[zmf7 hj,zxb7 h1,List.set_append_right _ _ (Nat.le_of_eq e),e,Nat.sub_self];simp
theorem midV_same (ms:List (List Msg)) (v o:List Int) {d:Nat} {a b:Int} (h1:v[d]?=some a) (h2:o[d]?=some b) (h:¬posM (gt2 ms d) a<posM (gt2 ms d) b):midV ms v o (d+1)=midV ms v o d:=by
 rw[midV_s ms v o h1 h2,if_neg h];exact set_at (midV_get ms v o h1)
theorem zre7 {x:Stq} {k:Nat} {v:List Int} (h:k<x.s.vs.length):(setV x k v).s.vs[k]?=some v:=by
 show (x.s.vs.set k v)[k]?=some v
 rw[List.getElem?_set_self h]
theorem zdd7 (L:List Cell) (k v:Nat) (w:List Int) (n:Int):L.set k (Cell.own true false 1 ((w.map N).set v (N n)))=L.set k (ownC (w.set v n)):=by
 show _=L.set k (Cell.own true false 1 ((w.set v n).map N))
 rw[List.map_set]
theorem R96.k {m:Vm} {x:Stq} {k i:Nat} {v o:List Int} (h:R96 m x k i v o) (hm:m≠.own):x.s.vs[k]?=some v:=by
 rcases m with _|_|_|_|_
 ·exact absurd rfl hm
 ·exact h
 ·exact h.1
 ·exact h.1
 ·exact h.1
theorem R96.set {m:Vm} {x:Stq} {k i:Nat} {v o:List Int} (h:R96 m x k i v o) (w:List Int):R96 m (xV m x k w) k i w o:=by
 rcases m with _|_|_|_|_
 ·trivial
 ·exact zre7 (zca7 h).2.2
 ·exact⟨zre7 (zca7 h.1).2.2,h.2⟩
 ·exact⟨zre7 (zca7 h.1).2.2,h.2⟩
 ·refine⟨zre7 (zca7 h.1).2.2,?_,h.2.2⟩
  show (x.s.vs.set k w)[i]?=_
  rw[List.getElem?_set_ne (Ne.symm h.2.2)];exact h.2.1
abbrev E96 (d n:Nat):Env:=[(4,.ref ((5,0),0,0) 0),(5,.ref ((6,0),0,0) 0),(6,.fn 166 [.ref ((4,0),0,0) 0,.ref ((6,0),0,0) 0,.ref ((5,0),0,0) 0]),(10,.dat (N n)),(11,.dat (N d))]
@[simp] abbrev X96 (m:Vm) (x:Stq) (k i n:Nat) (w o:List Int):zsa7:=enum 0 (O96 m x w)++[((4,0),.plain (.box [.ref ((0,0),0,0) 0])),((5,0),.plain (.box [V96 m x k n 1])),((6,0),.plain (.box [W96 m x i o (jF m)]))]
abbrev I96 (m:Vm) (x:Stq) (k i:Nat) (v o:List Int) (d:Nat):St:=⟨E96 d v.length,X96 m (xV m x k (midV x.s.ms v o d)) k i v.length (midV x.s.ms v o d) o⟩
theorem loop96 (m:Vm) (x:Stq) (k j:Nat) (v o:List Int) (hR:R96 m x k j v o) (hl:v.length<1000000) (ho:v.length≤o.length) (hm:v.length≤x.s.ms.length) (hml:∀l∈x.s.ms,l.length<1000000) (st:St) (hs:hd [4,5,6,10,11] [] st=some (I96 m x k j v o 0)):
  Ev (zga7 (exec K l96_0) st) (fun q=>q.1=.exit 0∧∃env,hd [] [] q.2=some ⟨env,X96 m (xV m x k (jnV x.s.ms v o 0)) k j v.length (jnV x.s.ms v o 0) o⟩):=by
 refine (zhb7 (live:=[4,5,6,10,11]) (drop:=[]) v (by omega) (I96 m x k j v o) (fun _ q=>q.1=.exit 0∧∃env,hd [] [] q.2=some ⟨env,X96 m (xV m x k (jnV x.s.ms v o 0)) k j v.length (jnV x.s.ms v o 0) o⟩)
   (fun i a s' g1 g2 g3 ix hs=>?_) (fun s' hs=>?_) _ hs)
 ·obtain⟨b,hb⟩:∃b,o[i]?=some b:=⟨_,List.getElem?_eq_getElem (show i<o.length by omega)⟩;obtain⟨l,hl⟩:∃l,x.s.ms[i]?=some l:=⟨_,List.getElem?_eq_getElem (show i<x.s.ms.length by omega)⟩;have hlen:=midV_len x.s.ms v o i (by omega);have hmg:=midV_get x.s.ms v o g1;obtain⟨b1,b2,b3⟩:=zca7 hb;obtain⟨m1,m2,m3⟩:=zca7 hmg;have hR':=hR.set (midV x.s.ms v o i);have h166:=run166 m (xV m x k (midV x.s.ms v o i)) k j i _ o a b l hR' hmg hb (by rcases m with _|_|_|_|_<;>exact hl) (hml _ (List.mem_of_getElem? hl)) ix;rw[hlen]at h166;have cb:∀b:Bool,b=false∨b=true:=by decide
  by_cases c:posM l a<posM l b
  ·have e:=midV_s x.s.ms v o g1 hb;rw[zxd7 hl,if_pos c]at e;unfold R96 at hR';rcases m with _|_|b|_|_
   ·simp[xB,xS,xM,c]at h166;simp[hs,g1,g2,g3,ix,enum,xM,xB,xS,h166,YID,hb,b1,b2,b3,hlen,hmg,m1,e,List.map_set]
   ·simp[xB,xS,xM,c]at h166;simp[hs,g1,g2,g3,ix,enum,xM,xB,xS,h166,YID,hb,b1,b2,b3,hlen,hmg,m1,hR'];rw[e];simp[setV,List.map_set];exact zdd7 _ _ _ _ _
   ·obtain⟨r1,r2⟩:=hR';rcases cb b with rfl|rfl
    all_goals
     simp[xB,xS,xM,c]at h166;simp[hs,g1,g2,g3,ix,enum,xM,xB,xS,h166,YID,hb,b1,b2,b3,hlen,hmg,m1,r1,r2];rw[e];simp[setV,List.map_set];exact zdd7 _ _ _ _ _
   ·obtain⟨r1,r2⟩:=hR';simp[xB,xS,xM,c]at h166;simp[hs,g1,g2,g3,ix,enum,xM,xB,xS,h166,YID,hb,b1,b2,b3,hlen,hmg,m1,r1,r2];rw[e];simp[setV,List.map_set];exact zdd7 _ _ _ _ _
   ·obtain⟨r1,r2,r3⟩:=hR';simp[xB,xS,xM,c]at h166;simp[hs,g1,g2,g3,ix,enum,xM,xB,xS,h166,YID,hb,b1,b2,b3,hlen,hmg,m1,r1,r2,r3];rw[e];simp[setV,List.map_set];exact zdd7 _ _ _ _ _
  ·have e:=midV_same x.s.ms v o g1 hb (by rw[zxd7 hl];exact c);rcases m with _|_|b|_|_;rotate_left 2
   ·rcases cb b with rfl|rfl
    all_goals
     simp[xB,xS,xM,c]at h166;simp[hs,g1,g2,g3,ix,enum,xM,xB,xS,h166,e,YID]
   all_goals
    simp[xB,xS,xM,c]at h166;simp[hs,g1,g2,g3,ix,enum,xM,xB,xS,h166,e,YID]
 ·rcases m with _|_|_|_|_<;>simp[hs,midV_n]
theorem run96 (m:Vm) (x:Stq) (k j:Nat) (v o:List Int) (hR:R96 m x k j v o) (hl:v.length<1000000) (ho:v.length≤o.length) (hm:v.length≤x.s.ms.length) (hml:∀l∈x.s.ms,l.length<1000000):K 96 [.ref ((0,0),0,0) 0,V96 m x k v.length 1,W96 m x j o (jF m)] (O96 m x v)=some (.tup [],O96 m (xV m x k (jnV x.s.ms v o 0)) (jnV x.s.ms v o 0)):=by
 have e0:=fun h=>set_at (hR.k h)
 have h1:=loop96 m x k j v o hR hl ho hm hml;rcases m with _|_|b|_|_;rotate_left 2
 ·simp at e0;refine ce rfl ?_;rcases b with _|_
  all_goals
   simp;simp only[zaa7];refine (h1 _ (by simp[setV,midV_0,e0,enum,xM])).mono ?_;rintro⟨y,s'⟩ ⟨rfl,env,hq⟩;dsimp only at hq;simp
   show Ev (endK [] false _ (.ret,s')) _
   rw[endK_hd (live:=[]) (by simp) hq];simp[enum,xM,xB,xS]
 all_goals
  simp at e0;refine ce rfl ?_;simp;simp only[zaa7];refine (h1 _ (by simp[setV,midV_0,e0,enum,xM])).mono ?_;rintro⟨y,s'⟩ ⟨rfl,env,hq⟩;dsimp only at hq;simp
  show Ev (endK [] false _ (.ret,s')) _
  rw[endK_hd (live:=[]) (by simp) hq];simp[enum,xM,xB,xS]
end Go.Am.E

set_option maxRecDepth 10000
set_option maxHeartbeats 16000000
namespace Go.Am.E
open Go.Proofs Go.Ex Go.Rc
attribute [local simp] MsD
def rd0 (x:Stq) (k v:Nat) (w:List Int):Stq:={ setV x k (w.set v (-1)) with e:={ x.e with rd:=atV x.p x.s v 0 },rf:=-1 }
theorem row_get (r:RId) (pv:Nat):∀(l:List (List Int)) (j k:Nat) (w:List Int),l[k]?=some w→(rowsA r pv j (l.map ownC))[k]?=some [.rsl (r,j+k+1,0) pv 1 0 w.length]
 |[],j,k,w,h=>by simp at h
 |q::l,j,0,w,h=>by
  simp at h;subst h;simp[rowsA]
 |q::l,j,k+1,w,h=>by
  simp at h;have:=row_get r pv l (j+1) k w h;simp[rowsA,this,show j+1+k=j+(k+1) by omega]
theorem run167z (x:Stq) (b:Bool) (k v:Nat) (w:List Int) (hk:x.ix=k) (hi:x.i.o=v) (hw:x.s.vs[k]?=some w) (hv:v<w.length) (hp:v<x.p.vs.length) (hx:Ix k∧Ix v):K 167 [.ref ((0,0),0,0) 0,.dat (N 0)] (xO x n0 b)=some (.tup [],xO (rd0 x k v w) n0 b):=by
 have h1:=run143 x.p x.s v 0 (fun _=>hp) (fun h=>absurd rfl h) (by omega);simp only[Int.ofNat_zero,Int.natCast_zero]at h1;obtain⟨w1,w2,w3⟩:=zca7 hw;obtain⟨a,ha⟩:∃a,w[v]?=some a:=⟨_,List.getElem?_eq_getElem hv⟩;obtain⟨a1,a2,a3⟩:=zca7 ha;have r1:=(zca7 (row_get (0,3) x.vp _ 0 k w hw)).1;simp only[Nat.zero_add]at r1;have r2:=(zca7 (row_get (0,7) x.vp _ 0 k w hw)).1;simp only[Nat.zero_add]at r2;cases b
 ·refine ce rfl ?_;simp[r1,hk,hi,h1,hw,w1,w2,w3,ha,a1,a2,a3,hx.1,hx.2];simp[rd0,setV,List.map_set,hk,hi];exact zdd7 _ _ _ _ _
 ·refine ce rfl ?_;simp[r2,hk,hi,h1,hw,w1,w2,w3,ha,a1,a2,a3,hx.1,hx.2];simp[rd0,setV,List.map_set,hk,hi];exact zdd7 _ _ _ _ _
end Go.Am.E

set_option maxRecDepth 10000
set_option maxHeartbeats 16000000
namespace Go.Am.E
open Go.Proofs Go.Ex Go.Rc
attribute [local simp] MsD
def rd1 (x:Stq) (k v:Nat) (w:List Int) (m:Msg):Stq:={ setV x k (if x.e.ord=2 then jnV x.s.ms (w.set v m.ev) m.vw 0 else w.set v m.ev) with e:={ x.e with rd:=m.val },rf:=m.ev }
theorem zrb7 (l:List (List Int)) (k:Nat) (r:List Int):List.map ownC (l.set k r)=(List.map ownC l).set k (ownC r):=List.map_set
theorem row_get3 (r:RId) (pv:Nat) {l:List (List Msg)} {k:Nat} {w:List Msg} (h:l[k]?=some w):(rowsA r pv 0 (l.map cowM))[k]?=some [.rsl (r,k+1,0) pv 3 0 w.length]:=by
 rw[zjb7,List.getElem?_map,h];simp
theorem run167s (x:Stq) (k v n:Nat) (w:List Int) (l:List Msg) (m:Msg) (hk:x.ix=k) (hi:x.i.o=v) (hw:x.s.vs[k]?=some w) (hv:v<w.length) (hl:x.s.ms[v]?=some l) (hm:l[n]?=some m) (hx:Ix k∧Ix v∧Ix n)
  (hwl:w.length<1000000) (hmv:w.length≤m.vw.length) (hwm:w.length≤x.s.ms.length) (hml:∀l∈x.s.ms,l.length<1000000):K 167 [.ref ((0,0),0,0) 0,.dat (N (n+1))] (xO x n0 true)=some (.tup [],xO (rd1 x k v w m) n0 true):=by
 have hg:=zxd7 hl;have hn:=(zca7 hm).2.2;have h1:=run143 x.p x.s v (n+1) (fun h=>by omega) (fun h=>⟨(zca7 hl).2.2,by rw[hg];simpa using hn⟩) (by have:=hml l (List.mem_of_getElem? hl);omega);have ha:atV x.p x.s v (n+1)=m.val:=by simp[atV,hg,hm]
 rw[ha,show ((n+1:Nat):Int)=(n:Int)+1 by omega]at h1;have wn:IntKind.wrap .i64 (n:Int)=n:=wrap_i64 (by omega) (by have:=hx.2.2;unfold Ix at this;omega);obtain⟨w1,w2,w3⟩:=zca7 hw;obtain⟨l1,l2,l3⟩:=zca7 hl;obtain⟨m1,m2,m3⟩:=zca7 hm;obtain⟨a,ha⟩:∃a,w[v]?=some a:=⟨_,List.getElem?_eq_getElem hv⟩;obtain⟨a1,a2,a3⟩:=zca7 ha;have r2:=(zca7 (row_get (0,7) x.vp _ 0 k w hw)).1;simp only[Nat.zero_add]at r2;have hn':(0:Int)<(n:Int)+1:=by omega
 have h96:=run96 .dat { setV x k (w.set v m.ev) with e:={ x.e with rd:=m.val },rf:=m.ev } k 0 (w.set v m.ev) m.vw (zre7 w3) (by simpa using hwl) (by simpa using hmv) (by simp[setV];exact hwm) hml;have r3:=(zca7 (row_get3 (0,6) x.mp hl)).1;obtain⟨me,mva,mvw⟩:=m;dsimp only at h96 hmv;refine ce rfl ?_;by_cases ho:x.e.ord=2
 ·simp[xB,xS,xM,setV,fV,aT,fM,fL,fS,xE,zrb7,hk,hi,ho]at h96;simp[zdd7,r2,r3,hk,hi,h1,hw,w1,w2,w3,ha,a1,a2,a3,hx.1,hx.2.1,hx.2.2,hl,l1,l2,l3,hm,m1,m2,m3,wn,hn',ho,h96];simp[rd1,setV,hk,hi,ho,zrb7]
 ·simp[r2,r3,hk,hi,h1,hw,w1,w2,w3,ha,a1,a2,a3,hx.1,hx.2.1,hx.2.2,hl,l1,l2,l3,hm,m1,m2,m3,wn,hn',ho];simp[rd1,setV,List.map_set,hk,hi,ho];exact zdd7 _ _ _ _ _
end Go.Am.E

set_option maxRecDepth 10000
set_option maxHeartbeats 8000000
namespace Go.Am.E
open Go.Proofs Go.Ex Go.Rc
attribute [-simp] splice
attribute [local simp] zma7
abbrev E124 (n m:Nat):Env:=[(7,.rsl ((31,0),0,0) 0 1 0 n),(8,.dat (N m))]
abbrev C124 (n m:Nat):List Dat:=List.replicate m (N (-1))++List.replicate (n-m) (N 0)
abbrev X124 (n m:Nat):zsa7:=[((31,0),.plain (.arr 1 0 false (C124 n m)))]
theorem rep_splice (n m:Nat) (h:m≤n):splice (C124 n m) m (List.replicate (min (n-m) m) (N (-1)))=C124 n (m+min m (n-m)):=by
 have e1:List.take m (C124 n m)=List.replicate m (N (-1)):=List.take_left' (by simp)
 have e2:List.drop (m+min (n-m) m) (C124 n m)=List.replicate (n-(m+min m (n-m))) (N 0):=by
  unfold C124;rw[List.drop_append,List.drop_eq_nil_of_le (by simp),List.nil_append,List.length_replicate,List.drop_replicate]
  congr 1
  omega
 unfold splice;rw[List.length_replicate,e1,e2,List.replicate_append_replicate,Nat.min_comm]
theorem rep_loop (n:Nat) (hn:n<1000000):∀(k m:Nat) (s:St),n-m≤k→(m<n→1≤m)→m≤n→hd [7,8] [] s=some ⟨E124 n m,X124 n m⟩→
  Ev (zga7 (exec K l124_0) s) (fun q=>q.1=.exit 0∧hd [7] [] q.2=some ⟨[(7,.rsl ((31,0),0,0) 0 1 0 n)],[((31,0),.plain (.arr 1 0 false (List.replicate n (N (-1)))))]⟩)
 |k,m,s,hk,h1,h2,hs=>by
  by_cases hm:m=n
  ·subst hm;apply zya7;simp[hs]
  ·have h3:(m:Int)<n:=by omega
   have h3':m<n:=by omega
   obtain⟨k,rfl⟩:∃j,k=j+1:=⟨k-1,by omega⟩;apply zya7;have ix:Ix m:=by unfold Ix;omega
   have h4:(m:Int)≤n:=by omega
   have h5:=h1 h3';have hsp:=rep_splice n m h2;have hw:IntKind.wrap .i64 ((m:Int)+(min m (n-m):Nat))=(m+min m (n-m):Nat):=by rw[wrap_i64 (by omega) (by omega)];omega
   have ih:=rep_loop n hn k (m+min m (n-m));generalize hM:m+min m (n-m)=M at *
   simp only[C124]at hsp;simp[hs,h3,h3',h2,h4,ix,hw,hsp];exact ih _ (by omega) (by omega) (by omega) (by simp)
theorem run124 (n:Nat) (hn:n<1000000):K 124 [.dat (.sl [N (-1)]),.dat (N n)] []=some (.rsl ((0,0),0,0) 0 1 0 n,[.plain (.arr 1 0 false (List.replicate n (N (-1))))]):=by
 have h:=run201 n hn;have h2:¬(n:Int)<0:=by omega
 have h3:¬(9223372036854775807:Int)<n:=by omega
 have h4:8*(n:Int)≤1099511627776:=by omega
 have h5:(n:Int)≤1099511627776:=by omega
 have w:IntKind.wrap .u64 (n:Int)=n:=by rw[wrap_u64];omega
 have w':IntKind.wrap .i64 (n:Int)=n:=wrap_i64 (by omega) (by omega);refine ce rfl ?_
 have e:splice (List.replicate n (Dat.int IntKind.i64 0)) 0 (List.take n [N (-1)])=C124 n (min 1 n):=by
  cases n with
  |zero=>rfl
  |succ n=>simp[splice,C124,Nat.min_eq_left]
 have hl:=rep_loop n hn n (min 1 n);generalize hM:min 1 n=M at *
 simp[h,h2,h3,h4,h5,w,w',e,hM];simp only[zaa7];refine (hl _ (by omega) (by omega) (by omega) (by simp)).mono ?_;rintro⟨y,s'⟩ ⟨rfl,hq⟩;dsimp only at hq;simp[hq]
end Go.Am.E

namespace Go.Am
mutual
theorem eqv_rfl:∀d:Dat,Dat.eqv d d=true
 |.int k n=>by simp[Dat.eqv]
 |.bool a=>by simp[Dat.eqv]
 |.str a=>by simp[Dat.eqv]
 |.sl a=>by simp[Dat.eqv,eqvL_rfl a]
 |.agg a=>by simp[Dat.eqv,eqvL_rfl a]
theorem eqvL_rfl:∀l:List Dat,Dat.eqvL l l=true
 |[]=>by simp[Dat.eqvL]
 |a::r=>by simp[Dat.eqvL,eqv_rfl a,eqvL_rfl r]
end
theorem same_d (a:Dat):AVal.same (.dat a) (.dat a)=true:=by simp[AVal.same,eqv_rfl]
theorem same_r (i:Id) (a b c d:Nat):AVal.same (.rsl i a b c d) (.rsl i a b c d)=true:=by simp[AVal.same]
theorem same_p (i:Id) (a:Nat):AVal.same (.ref i a) (.ref i a)=true:=by simp[AVal.same]
theorem same_n:sameAll AVal.same [] []=true:=by simp[sameAll]
theorem same_c (a b:AVal) (r s:List AVal):sameAll AVal.same (a::r) (b::s)=(AVal.same a b&&sameAll AVal.same r s):=by simp[sameAll]
theorem same_cells:∀l:List Cell,sameAll Cell.same l l=true
 |[]=>by simp[sameAll]
 |c::r=>by
  rw[sameAll,same_cells r];cases c<;>simp[Cell.same,eqvL_rfl]
theorem ztc7 (a b:List AVal):TObj.same (.plain (.box a)) (.plain (.box b))=sameAll AVal.same a b:=by simp[TObj.same,Obj.same]
theorem zuc7 (s v:Nat) (f:Bool) (l:List Dat):TObj.same (.plain (.arr s v f l)) (.plain (.arr s v f l))=true:=by simp[TObj.same,Obj.same,eqvL_rfl]
theorem zsc7 (s v:Nat) (f:Bool) (l:List Cell):TObj.same (.fam s v f l) (.fam s v f l)=true:=by simp[TObj.same,same_cells]
end Go.Am

set_option maxRecDepth 10000
set_option maxHeartbeats 16000000
namespace Go.Am.E
open Go.Proofs Go.Ex Go.Rc
attribute [local simp] MsD
def ins {α:Type} (l:List α) (i:Nat) (a:α):List α:=l.take i++a::l.drop i
theorem zke7 {α:Type} (l:List α) (i:Nat) (a:α) (h:i≤l.length):(ins l i a).length=l.length+1:=by simp[ins];omega
theorem insL_get {α:Type} (l:List α) (i:Nat) (a:α) (h:i≤l.length):(ins l i a)[i]?=some a:=by
 have e:(l.take i).length=i:=by simp;omega
 rw[ins,List.getElem?_append_right (by omega),e,Nat.sub_self];rfl
theorem insL_set {α:Type} (l:List α) (i:Nat) (a b:α) (h:i≤l.length):(ins l i a).set i b=ins l i b:=by
 have e:(l.take i).length=i:=by simp;omega
 rw[ins,List.set_append_right _ _ (Nat.le_of_eq e),e,Nat.sub_self];rfl
theorem zwb7 (r:RId) (pv:Nat) {l:List (List Int)} {k:Nat} {w:List Int} (h:l[k]?=some w):(rowsA r pv 0 (l.map ownC))[k]?=some [.rsl (r,k+1,0) pv 1 0 w.length]:=by
 rw[zjb7,List.getElem?_map,h];simp
theorem aI_set (a:List Int) (b:Nat) (n:Int):aI 0 (a.set b n)=.plain (.arr 1 0 false ((a.map N).set b (N n))):=by
 show TObj.plain (.arr 1 0 false ((a.set b n).map N))=_
 rw[List.map_set]
theorem Ns_cons (a:Int) (l:List Int):Ns (a::l)=.sl (N a::l.map N):=rfl
theorem insK_row (sz bytes pv v n i v2:Nat) (cells:List Cell) (fr:Bool) (l:List Dat) (d:Dat) (h:cells[v]?=some (.own fr false sz l)) (hn:n=l.length) (hi:i≤n) (hr:(n+1)*(bytes+1)≤room):
  insK sz bytes [.rsl ((0,0),v+1,0) pv sz 0 n,.dat (N i),.rsl ((0,1),0,0) v2 sz 0 1] [.fam 0 pv false cells,.plain (.arr sz v2 false [d])]=
  some (.rsl ((0,0),v+1,0) (pv+1) sz 0 (n+1),[.fam 0 (pv+1) false (cells.set v (.own false false sz (insD l i d))),.plain (.arr sz v2 false [d])]):=by
 subst hn;have hi':(i:Int)≤l.length:=by omega
 have hi0:(0:Int)≤i:=by omega
 unfold room at hr;simp[insK,zpa7,flatE,h,hi',hi0,hr,inPos,putAll]
theorem run231 (pv v n i v2:Nat) (ms:List (List Msg)) (l:List Msg) (a b:Int) (h:ms[v]?=some l) (hn:n=l.length) (hi:i≤n) (hl:l.length<1000000):K 231 [.rsl ((0,0),v+1,0) pv 3 0 n,.dat (N i),.rsl ((0,1),0,0) v2 3 0 1] [.fam 0 pv false (ms.map cowM),.plain (.arr 3 v2 false [.agg [N a,N b,.sl []]])]=
  some (.rsl ((0,0),v+1,0) (pv+1) 3 0 (n+1),[.fam 0 (pv+1) false ((ms.map cowM).set v (.own false false 3 ((ins l i ⟨a,b,[]⟩).map MsD))),.plain (.arr 3 v2 false [MsD ⟨a,b,[]⟩])]):=by
 refine zhf7 rfl ?_;have e:(ins l i ⟨a,b,[]⟩).map MsD=insD (l.map MsD) i (MsD ⟨a,b,[]⟩):=by simp[ins,insD]
 have:=insK_row 3 40 pv v n i v2 (ms.map cowM) true (l.map MsD) (MsD ⟨a,b,[]⟩) (by rw[List.getElem?_map,h];rfl) (by rw[List.length_map,hn]) hi (by unfold room;omega);simp only[tblE,lawE,memoL,insV];rw[show (Dat.agg [N a,N b,.sl []])=MsD ⟨a,b,[]⟩ from rfl,this,e]
theorem run232 (pv v n i v2:Nat) (ms:List (List Int)) (l:List Int) (a:Int) (h:ms[v]?=some l) (hn:n=l.length) (hi:i≤n) (hl:l.length<1000000):K 232 [.rsl ((0,0),v+1,0) pv 1 0 n,.dat (N i),.rsl ((0,1),0,0) v2 1 0 1] [.fam 0 pv false (ms.map ownC),.plain (.arr 1 v2 false [N a])]=
  some (.rsl ((0,0),v+1,0) (pv+1) 1 0 (n+1),[.fam 0 (pv+1) false ((ms.map ownC).set v (.own false false 1 ((ins l i a).map N))),.plain (.arr 1 v2 false [N a])]):=by
 refine zhf7 rfl ?_;have e:(ins l i a).map N=insD (l.map N) i (N a):=by simp[ins,insD]
 have:=insK_row 1 8 pv v n i v2 (ms.map ownC) true (l.map N) (N a) (by rw[List.getElem?_map,h];rfl) (by rw[List.length_map,hn]) hi (by unfold room;omega);simp only[tblE,lawE,memoL,insV];rw[this,e]
end Go.Am.E

set_option maxRecDepth 10000
set_option maxHeartbeats 16000000
namespace Go.Am.E
open Go.Proofs Go.Ex Go.Rc
attribute [local simp] MsD same_d same_r same_p same_n same_c ztc7 zuc7 zsc7 pairK zyc7 chgOf slim sameAt meets updT
def owV (x:Stq) (v pl:Nat) (w:List Int) (o:Int) (f:Option (List Int)):List Int:=
 let w0:=if x.e.ord=2 then w.set v x.s.ev.length else (List.replicate w.length (-1)).set v x.s.ev.length
 match f with
 |none=>w0
 |some f=>jnV (x.s.ms.set v (ins (gt2 x.s.ms v) pl ⟨x.s.ev.length,o,[]⟩)) w0 f 0
def wrX (x:Stq) (k v pl:Nat) (w:List Int) (o:Int) (f:Option (List Int)):Stq:=
 { x with s:={ x.s with ms:=x.s.ms.set v (ins (gt2 x.s.ms v) pl ⟨x.s.ev.length,o,owV x v pl w o f⟩),mo:=x.s.mo.set v (ins (gt2 x.s.mo v) pl x.s.ev.length),vs:=x.s.vs.set k (w.set v x.s.ev.length) },e:={ x.e with wr:=o },mp:=x.mp+1,op:=x.op+1 }
theorem run67r (pv v:Nat) (l:List (List Int)) (w:List Int) (h:l[v]?=some w) (hl:w.length<10000000000):K 67 [.rsl ((0,0),v+1,0) pv 1 0 w.length] [.fam 0 pv false (l.map ownC)]=some (.rsl ((0,1),0,0) 0 1 0 w.length,[.fam 0 pv false (l.map ownC),aI 0 w]):=by
 have h1:8*(w.length:Int)≤1099511627776:=by omega
 have h2:(w.length:Int)≤1099511627776:=by omega
 refine ce rfl ?_;simp[h1,h2,h]
theorem setM {ms:List (List Msg)} {L:List Msg} {v pl:Nat} {b:Msg} {d:Dat} (h:d=MsD b):(ms.map cowM).set v (Cell.own true false 3 ((L.map MsD).set pl d))=(ms.map cowM).set v (cowM (L.set pl b)):=by
 subst h
 show _=(ms.map cowM).set v (.own true false 3 ((L.set pl b).map MsD))
 rw[List.map_set]
theorem map_setM (l:List (List Msg)) (k:Nat) (r:List Msg):List.map cowM (l.set k r)=(List.map cowM l).set k (cowM r):=List.map_set
theorem run168n (x:Stq) (k v pl:Nat) (w:List Int) (o:Int) (l:List Msg) (mo:List Int) (hk:x.ix=k) (hi:x.i.o=v) (hw:x.s.vs[k]?=some w) (hv:v<w.length) (hl:x.s.ms[v]?=some l) (hmo:x.s.mo[v]?=some mo) (hp:pl≤l.length) (hp2:pl≤mo.length) (hx:Ix k∧Ix v∧Ix pl)
  (hwl:w.length<1000000) (hll:l.length<1000000) (hmol:mo.length<1000000):K 168 [.ref ((0,0),0,0) 0,.dat (N (pl+1)),.dat (N o),.nils] (xO x n0 true)=some (.tup [],xO (wrX x k v pl w o none) n0 true):=by
 have h230:=run230 x true;obtain⟨w1,w2,w3⟩:=zca7 hw;obtain⟨l1,l2,l3⟩:=zca7 hl;obtain⟨o1,o2,o3⟩:=zca7 hmo;obtain⟨a,ha⟩:∃a,w[v]?=some a:=⟨_,List.getElem?_eq_getElem hv⟩;obtain⟨a1,a2,a3⟩:=zca7 ha;have r1:=(zca7 (zwb7 (0,7) x.vp hw)).1;have r2:=(zca7 (row_get3 (0,6) x.mp hl)).1;have r3:=(zca7 (zwb7 (0,12) x.op hmo)).1;have h124:=run124 w.length hwl;have wp:IntKind.wrap .i64 (pl:Int)=pl:=wrap_i64 (by omega) (by omega);have h231:=fun v2=>run231 x.mp v l.length pl v2 x.s.ms l x.s.ev.length o hl rfl hp hll
 have h232:=fun v2=>run232 x.op v mo.length pl v2 x.s.mo mo x.s.ev.length hmo rfl hp2 hmol
 have L1:=zke7 l pl ⟨x.s.ev.length,o,[]⟩ hp;have L2:=insL_get l pl ⟨x.s.ev.length,o,[]⟩ hp;have L3:=fun b=>insL_set l pl ⟨x.s.ev.length,o,[]⟩ b hp
 have M1:=zke7 mo pl (x.s.ev.length:Int) hp2;have hgl:=zxd7 hl;have hgm:=zxd7 hmo;have hpL:pl<l.length+1:=by omega
 have hpi:(pl:Int)<l.length+1:=by omega
 have h67:=run67r x.vp k (x.s.vs.set k (w.set v x.s.ev.length)) (w.set v x.s.ev.length) (List.getElem?_set_self w3) (by simp;omega);simp[zrb7]at h67;generalize hL:ins l pl ⟨x.s.ev.length,o,[]⟩=L at *
 generalize hM:ins mo pl (x.s.ev.length:Int)=M at *
 have L4:=(zca7 L2).1;have r4:=(zca7 (row_get3 (0,6) (x.mp+1) (List.getElem?_set_self (a:=L) l3))).1;have r5:List.map cowM (x.s.ms.set v L)=(List.map cowM x.s.ms).set v (cowM L):=List.map_set;rw[r5,L1]at r4;refine ce rfl ?_;by_cases ho:x.e.ord=2
 ·simp[xB,xS,xM,hk,hi,ho]at h230;simp[r4,h230,h67,h231,h232,wp,L1,L2,L4,M1,hpL,hpi,zdd7,r1,r2,r3,hk,hi,hw,w1,w2,w3,ha,a1,a2,a3,hx.1,hx.2.1,hx.2.2,hl,l1,l2,l3,hmo,o1,o2,o3,ho,h124];simp[wrX,owV,hk,hi,ho,hgl,hgm,hM,zrb7,map_setM];simp only[←L3];exact setM (by simp)
 ·simp[xB,xS,xM,hk,hi,ho]at h230;simp[r4,h230,h67,h231,h232,wp,L1,L2,L4,M1,hpL,hpi,zdd7,r1,r2,r3,hk,hi,hw,w1,w2,w3,ha,a1,a2,a3,hx.1,hx.2.1,hx.2.2,hl,l1,l2,l3,hmo,o1,o2,o3,ho,h124];simp[wrX,owV,hk,hi,ho,hgl,hgm,hM,zrb7,map_setM];simp only[←L3];exact setM (by simp)
end Go.Am.E

set_option maxRecDepth 10000
set_option maxHeartbeats 16000000
namespace Go.Am.E
open Go.Proofs Go.Ex Go.Rc
attribute [local simp] MsD same_d same_r same_p same_n same_c ztc7 zuc7 zsc7 pairK zyc7 chgOf slim sameAt meets updT
theorem run168s (x:Stq) (k v pl:Nat) (w:List Int) (o:Int) (l:List Msg) (mo f:List Int) (hk:x.ix=k) (hi:x.i.o=v) (hw:x.s.vs[k]?=some w) (hv:v<w.length) (hl:x.s.ms[v]?=some l) (hmo:x.s.mo[v]?=some mo) (hp:pl≤l.length) (hp2:pl≤mo.length) (hx:Ix k∧Ix v∧Ix pl)
  (hwl:w.length<1000000) (hll:l.length<100000) (hmol:mo.length<1000000) (hfl:w.length≤f.length) (hwm:w.length≤x.s.ms.length) (hml:∀l∈x.s.ms,l.length<1000000):K 168 [.ref ((0,0),0,0) 0,.dat (N (pl+1)),.dat (N o),.rsl ((0,1),0,0) 0 1 0 f.length] (O96 .own x f)=some (.tup [],(O96 .own (wrX x k v pl w o (some f)) f).set 1 (.plain (.arr 1 0 true (f.map N)))):=by
 rcases f with _|⟨f0,f⟩
 ·exact absurd (Nat.lt_of_lt_of_le hv hfl) (by simp)
 have h230:=run230 x true;obtain⟨w1,w2,w3⟩:=zca7 hw;obtain⟨l1,l2,l3⟩:=zca7 hl;obtain⟨o1,o2,o3⟩:=zca7 hmo;obtain⟨a,ha⟩:∃a,w[v]?=some a:=⟨_,List.getElem?_eq_getElem hv⟩;obtain⟨a1,a2,a3⟩:=zca7 ha;have r1:=(zca7 (zwb7 (0,8) x.vp hw)).1;have r2:=(zca7 (row_get3 (0,7) x.mp hl)).1;have r3:=(zca7 (zwb7 (0,13) x.op hmo)).1;have h124:=run124 w.length hwl;have wp:IntKind.wrap .i64 (pl:Int)=pl:=wrap_i64 (by omega) (by omega);have h231:=fun v2=>run231 x.mp v l.length pl v2 x.s.ms l x.s.ev.length o hl rfl hp (by omega)
 have h232:=fun v2=>run232 x.op v mo.length pl v2 x.s.mo mo x.s.ev.length hmo rfl hp2 hmol
 have L1:=zke7 l pl ⟨x.s.ev.length,o,[]⟩ hp;have L2:=insL_get l pl ⟨x.s.ev.length,o,[]⟩ hp;have L3:=fun b=>insL_set l pl ⟨x.s.ev.length,o,[]⟩ b hp
 have M1:=zke7 mo pl (x.s.ev.length:Int) hp2;have hgl:=zxd7 hl;have hgm:=zxd7 hmo;have hpL:pl<l.length+1:=by omega
 have hpi:(pl:Int)<l.length+1:=by omega
 have h67:=run67r x.vp k (x.s.vs.set k (w.set v x.s.ev.length)) (w.set v x.s.ev.length) (List.getElem?_set_self w3) (by simp;omega);simp[zrb7]at h67;generalize hL:ins l pl ⟨x.s.ev.length,o,[]⟩=L at *
 generalize hM:ins mo pl (x.s.ev.length:Int)=M at *
 have L4:=(zca7 L2).1;have r4:=(zca7 (row_get3 (0,7) (x.mp+1) (List.getElem?_set_self (a:=L) l3))).1;have r5:List.map cowM (x.s.ms.set v L)=(List.map cowM x.s.ms).set v (cowM L):=List.map_set;rw[r5,L1]at r4
 have h96:=fun ow (hL:ow.length=w.length)=>run96 .own { x with s:={ x.s with ms:=x.s.ms.set v L,mo:=x.s.mo.set v M,vs:=x.s.vs.set k (w.set v x.s.ev.length) },e:={ x.e with wr:=o },mp:=x.mp+1,op:=x.op+1 } k 0 ow (f0::f) trivial (by omega) (by omega) (by simp;omega) (fun l' hl'=>by
  rcases List.mem_or_eq_of_mem_set hl' with h|rfl
  ·exact hml _ h
  ·rw[L1];omega)
 simp[xB,xS,xM,aT,fV,fM,fL,fS,xE,zrb7,map_setM,hk,hi]at h96;refine ce rfl ?_;by_cases ho:x.e.ord=2
 ·have h96:=h96 (w.set v x.s.ev.length) (by simp);have J1:=zcb7 (x.s.ms.set v L) (w.set v x.s.ev.length) (f0::f) 0;simp only[List.length_set,List.length_replicate]at J1;generalize hJ:jnV (x.s.ms.set v L) (w.set v x.s.ev.length) (f0::f) 0=J at *
  have J2:List.take w.length (List.map N J)=List.map N J:=List.take_of_length_le (by simp[J1]);simp[ho,aI_set,Ns_cons]at h96;simp[xB,xS,xM,hk,hi,ho]at h230;simp[J1,J2,r4,h96,h230,h67,h231,h232,wp,L1,L2,L4,M1,hpL,hpi,zdd7,r1,r2,r3,hk,hi,hw,w1,w2,w3,ha,a1,a2,a3,hx.1,hx.2.1,hx.2.2,hl,l1,l2,l3,hmo,o1,o2,o3,ho,h124];simp[wrX,owV,hL,hJ,hk,hi,ho,hgl,hgm,hM,zrb7,map_setM];simp only[←L3];exact setM (by simp)
 ·have h96:=h96 ((List.replicate w.length (-1)).set v x.s.ev.length) (by simp);have J1:=zcb7 (x.s.ms.set v L) ((List.replicate w.length (-1)).set v x.s.ev.length) (f0::f) 0;simp only[List.length_set,List.length_replicate]at J1;generalize hJ:jnV (x.s.ms.set v L) ((List.replicate w.length (-1)).set v x.s.ev.length) (f0::f) 0=J at *
  have J2:List.take w.length (List.map N J)=List.map N J:=List.take_of_length_le (by simp[J1]);simp[aI_set,Ns_cons]at h96;simp[xB,xS,xM,hk,hi,ho]at h230;simp[J1,J2,r4,h96,h230,h67,h231,h232,wp,L1,L2,L4,M1,hpL,hpi,zdd7,r1,r2,r3,hk,hi,hw,w1,w2,w3,ha,a1,a2,a3,hx.1,hx.2.1,hx.2.2,hl,l1,l2,l3,hmo,o1,o2,o3,ho,h124];simp[wrX,owV,hL,hJ,hk,hi,ho,hgl,hgm,hM,zrb7,map_setM];simp only[←L3];exact setM (by simp)
end Go.Am.E

set_option maxRecDepth 10000
set_option maxHeartbeats 16000000
namespace Go.Am.E
open Go.Proofs Go.Ex Go.Rc
attribute [local simp] MsD
abbrev O157 (x:Stq) (b:Bool) (es:List AVal):List TObj:=xB x (nF .own) b::.plain (.rarr 1 0 (es.map fun e=>[e]))::aT x::xM x b++fM x::fV x::fL x::fS x::xE x
abbrev eL (x:Stq) (b:Bool) (i:Nat) (o:List Int):AVal:=.rsl ((0,xj b 4+1),i+1,0) x.lp 1 0 o.length
abbrev eS (x:Stq) (b:Bool) (i:Nat) (o:List Int):AVal:=.rsl ((0,xj b 5+1),i+1,0) x.sp 1 0 o.length
def shL (x:Stq) (k i:Nat) (j:List Int):Stq:={ x with s:={ x.s with vs:=x.s.vs.set k j,lk:=x.s.lk.set i j } }
theorem run157L (x:Stq) (b:Bool) (k i:Nat) (v o:List Int) (hk:x.ix=k) (hv:x.s.vs[k]?=some v) (ho:x.s.lk[i]?=some o) (hvo:v.length=o.length) (hm:v.length≤x.s.ms.length) (hl:v.length<1000000) (hml:∀l∈x.s.ms,l.length<1000000) (ix:Ix k∧Ix i):
  K 157 [.ref ((0,0),0,0) 0,.rsl ((0,1),0,0) 0 1 0 1] (O157 x b [eL x b i o])=some (.tup [],O157 (shL x k i (jnV x.s.ms v o 0)) b [eL x b i o]):=by
 have h96:=run96 (.lk b) x k i v o ⟨hv,ho⟩ hl (by omega) hm hml;have hj:=zcb7 x.s.ms v o 0;obtain⟨v1,v2,v3⟩:=zca7 hv;obtain⟨o1,o2,o3⟩:=zca7 ho;have r1:=(zca7 (zwb7 (0,xj b 3+1) x.vp hv)).1;generalize jnV x.s.ms v o 0=J at *
 have e1:((x.s.vs.map ownC).set k (ownC J))[k]?=some (ownC J):=by rw[List.getElem?_set_self (by simpa using v3)]
 rcases b with _|_
 all_goals
  simp[xB,xS,xM,aT,fV,fM,fL,fS,xE,setV,zrb7]at h96 r1;refine ce rfl ?_;simp[hk,hv,v1,v2,v3,ho,o1,o2,o3,r1,ix.1,ix.2];simp only[zaa7];apply zya7;simp[h96];apply zya7;simp;simp only[zaa7];apply zya7;simp[o1,o2,o3,ho,e1,hj,hvo];apply zya7;simp[shL,zrb7]
def shS (x:Stq) (k i:Nat) (j:List Int):Stq:={ x with s:={ x.s with vs:=x.s.vs.set k j,sg:=x.s.sg.set i j } }
theorem run157S (x:Stq) (k i:Nat) (v o:List Int) (hk:x.ix=k) (hv:x.s.vs[k]?=some v) (ho:x.s.sg[i]?=some o) (hvo:v.length=o.length) (hm:v.length≤x.s.ms.length) (hl:v.length<1000000) (hml:∀l∈x.s.ms,l.length<1000000) (ix:Ix k∧Ix i):
  K 157 [.ref ((0,0),0,0) 0,.rsl ((0,1),0,0) 0 1 0 1] (O157 x false [eS x false i o])=some (.tup [],O157 (shS x k i (jnV x.s.ms v o 0)) false [eS x false i o]):=by
 have h96:=run96 .sg x k i v o ⟨hv,ho⟩ hl (by omega) hm hml;have hj:=zcb7 x.s.ms v o 0;obtain⟨v1,v2,v3⟩:=zca7 hv;obtain⟨o1,o2,o3⟩:=zca7 ho;have r1:=(zca7 (zwb7 (0,4) x.vp hv)).1;generalize jnV x.s.ms v o 0=J at *
 have e1:((x.s.vs.map ownC).set k (ownC J))[k]?=some (ownC J):=by rw[List.getElem?_set_self (by simpa using v3)]
 simp[xB,xS,xM,aT,fV,fM,fL,fS,xE,setV,zrb7]at h96 r1;refine ce rfl ?_;simp[hk,hv,v1,v2,v3,ho,o1,o2,o3,r1,ix.1,ix.2];simp only[zaa7];apply zya7;simp[h96];apply zya7;simp;simp only[zaa7];apply zya7;simp[o1,o2,o3,ho,e1,hj,hvo];apply zya7;simp[shS,zrb7]
def shW (x:Stq) (k i c:Nat) (v o u:List Int):Stq:={ x with s:={ x.s with vs:=x.s.vs.set k (jnV x.s.ms (jnV x.s.ms v o 0) u 0),lk:=x.s.lk.set i (jnV x.s.ms (jnV x.s.ms v o 0) u 0),sg:=x.s.sg.set c (jnV x.s.ms (jnV x.s.ms v o 0) u 0) } }
theorem run157W (x:Stq) (k i c:Nat) (v o u:List Int) (hk:x.ix=k) (hv:x.s.vs[k]?=some v) (ho:x.s.lk[i]?=some o) (hu:x.s.sg[c]?=some u) (hvo:v.length=o.length) (hvu:v.length=u.length) (hm:v.length≤x.s.ms.length) (hl:v.length<1000000) (hml:∀l∈x.s.ms,l.length<1000000) (ix:Ix k∧Ix i∧Ix c):
  K 157 [.ref ((0,0),0,0) 0,.rsl ((0,1),0,0) 0 1 0 2] (O157 x false [eL x false i o,eS x false c u])=some (.tup [],O157 (shW x k i c v o u) false [eL x false i o,eS x false c u]):=by
 have h96:=run96 (.lk false) x k i v o ⟨hv,ho⟩ hl (by omega) hm hml;have hj:=zcb7 x.s.ms v o 0;obtain⟨v1,v2,v3⟩:=zca7 hv;obtain⟨o1,o2,o3⟩:=zca7 ho;obtain⟨u1,u2,u3⟩:=zca7 hu;have r1:=(zca7 (zwb7 (0,4) x.vp hv)).1;unfold shW;generalize jnV x.s.ms v o 0=J at *
 have h96':=run96 .sg (setV x k J) k c J u ⟨zre7 v3,hu⟩ (by omega) (by omega) (by show _≤x.s.ms.length;omega) hml;have hj':=zcb7 x.s.ms J u 0;rw[show (setV x k J).s.ms=x.s.ms from rfl]at h96';generalize jnV x.s.ms J u 0=J' at *
 have e1:((x.s.vs.map ownC).set k (ownC J'))[k]?=some (ownC J'):=by rw[List.getElem?_set_self (by simpa using v3)]
 simp[xB,xS,xM,aT,fV,fM,fL,fS,xE,setV,zrb7,hj]at h96 h96' r1;refine ce rfl ?_;simp[hk,hv,v1,v2,v3,ho,o1,o2,o3,r1,ix.1,ix.2.1,ix.2.2];simp only[zaa7];apply zya7;simp[h96];apply zya7;simp[h96'];apply zya7;simp;simp only[zaa7];apply zya7;simp[o1,o2,o3,ho,e1,hj,hj',hvo];apply zya7;have hou:u.length=o.length:=by omega
 simp[u1,u2,u3,hu,e1,hj,hj',hvo,hou];apply zya7;have d:List.drop o.length (List.map N u)=[]:=List.drop_eq_nil_of_le (by simp;omega);simp[zrb7,hk,hou,d]
end Go.Am.E

set_option maxRecDepth 10000
set_option maxHeartbeats 16000000
namespace Go.Am.E
open Go.Proofs Go.Ex Go.Rc
attribute [local simp] MsD same_d same_r same_p same_n same_c ztc7 zuc7 zsc7 pairK zyc7 chgOf slim sameAt meets updT
abbrev meX (x:Stq) (m:Me) (e:Int):Stq:={ x with s:={ x.s with me:=m },er:=e }
abbrev koX (x:Stq) (d o:Int):Stq:={ x with e:={ x.e with kind:=d,obj:=o } }
def memM (e:Int) (m:Me):Me:=if e=0 then m else ⟨[],[],[],[]⟩
theorem memP_eq (e:Int) (m:Me):memP e m=.tup [.dat (MD (memM e m)),.dat (N e)]:=by
 unfold memP memM;split
 ·rename_i h;rw[h]
 ·rfl
@[simp] def nJ (j:Nat):Nat:=if j≤1 then j else j+4
abbrev jM (m:Me):List TObj:=[.plain (.arr 1 0 true (m.va.map N)),.plain (.arr 1 0 true (m.ow.map N)),.fam 0 m.qu.length true (m.qu.map (Cell.freeze∘ownC)),.plain (.arr 1 0 true (m.sg.map N))]
abbrev xJ (x:Stq) (m:Me):List TObj:=xB x nJ false::aT x::jM m++fM x::fV x::fL x::fS x::xE x
abbrev reX (x:Stq) (d:Int):Stq:={ x with re:=d }
structure Mx (s:Ra) (ix:Int) (k i:Nat) (v o:List Int):Prop where
 hk:ix=k
 hv:s.vs[k]?=some v
 ho:s.lk[i]?=some o
 hvo:v.length=o.length
 hm:v.length≤s.ms.length
 hl:v.length<1000000
 hml:∀l∈s.ms,l.length<1000000
 ix:Ix k∧Ix i
 me:Mb s.me
def tkX (x:Stq) (k i:Nat) (v o:List Int):Stq:=shL (meX (koX x 9 i) (memM (ownE x.s.me i x.e.ag (-1)) (Go.Ex.ownM x.s.me i x.e.ag)) (ownE x.s.me i x.e.ag (-1))) k i (jnV x.s.ms v o 0)
theorem run155 (x:Stq) (k i:Nat) (v o:List Int) (h:Mx x.s x.ix k i v o):K 155 [.ref ((0,0),0,0) 0,.dat (N i)] (xO x n0 true)=some (.tup [],xJ (tkX x k i v o) x.s.me):=by
 have h158:=run158 x.s.me h.me i x.e.ag;have h157:=run157L (meX (koX x 9 i) (memM (ownE x.s.me i x.e.ag (-1)) (Go.Ex.ownM x.s.me i x.e.ag)) (ownE x.s.me i x.e.ag (-1))) false k i v o h.hk h.hv h.ho h.hvo h.hm h.hl h.hml h.ix;obtain⟨o1,o2,o3⟩:=zca7 h.ho;have r1:=(zca7 (zwb7 (0,4) x.lp h.ho)).1;have r2:=(zca7 (zwb7 (0,8) x.lp h.ho)).1;unfold tkX;rw[memP_eq]at h158;generalize memM (ownE x.s.me i x.e.ag (-1)) (Go.Ex.ownM x.s.me i x.e.ag)=M at *
 generalize ownE x.s.me i x.e.ag (-1)=E at *
 generalize shL (meX (koX x 9 i) M E) k i (jnV x.s.ms v o 0)=Z at *
 simp[xB,xS,xM,aT,fV,fM,fL,fS,xE,eL,eS]at h157;refine ce rfl ?_;simp[h158,h157,h.ho,o1,o2,o3,r1,r2,h.ix.1,h.ix.2]
def mxX (x:Stq) (k i:Nat) (v o:List Int):Stq:=
 if x.i.op=15 then tkX x k i v o
 else if x.i.op=16 then shL (meX (koX x 10 i) (memM (ownE x.s.me i x.e.ag x.e.ag) (Go.Ex.ownM x.s.me i (-1))) (ownE x.s.me i x.e.ag x.e.ag)) k i (jnV x.s.ms v o 0)
 else if freM x.s.me i then shL (reX { meX (koX x 11 i) (memM (ownE x.s.me i x.e.ag (-1)) (Go.Ex.ownM x.s.me i x.e.ag)) (ownE x.s.me i x.e.ag (-1)) with e:={ (koX x 11 i).e with rd:=1 } } 1) k i (jnV x.s.ms v o 0)
 else shL (koX x 11 i) k i (jnV x.s.ms v o 0)
def mxB (x:Stq) (i:Nat):Bool:=decide (x.i.op=17)&&!freM x.s.me i
theorem run92 (x:Stq) (k i:Nat) (v o:List Int) (h:Mx x.s x.ix k i v o) (hi:x.i.o=i) (hop:x.i.op=15∨x.i.op=16∨x.i.op=17):K 92 [.ref ((0,0),0,0) 0] (xO x n0 true)=some (.tup [],if mxB x i then xO (mxX x k i v o) n0 true else xJ (mxX x k i v o) x.s.me):=by
 obtain⟨o1,o2,o3⟩:=zca7 h.ho;have r1:=(zca7 (zwb7 (0,4) x.lp h.ho)).1;have r2:=(zca7 (zwb7 (0,8) x.lp h.ho)).1;rcases hop with hop|hop|hop
 ·have h155:=run155 x k i v o h;have e:mxX x k i v o=tkX x k i v o:=by simp[mxX,hop]
  have e2:mxB x i=false:=by simp[mxB,hop]
  rw[e,e2];generalize tkX x k i v o=Z at *
  refine ce rfl ?_;simp[xB,xS,xM,hi,hop]at h155;simp[h155,hi,hop]
 ·have h156:=run156 x.s.me h.me i x.e.ag;have h157:=run157L (meX (koX x 10 i) (memM (ownE x.s.me i x.e.ag x.e.ag) (Go.Ex.ownM x.s.me i (-1))) (ownE x.s.me i x.e.ag x.e.ag)) false k i v o h.hk h.hv h.ho h.hvo h.hm h.hl h.hml h.ix;have e:mxX x k i v o=shL (meX (koX x 10 i) (memM (ownE x.s.me i x.e.ag x.e.ag) (Go.Ex.ownM x.s.me i (-1))) (ownE x.s.me i x.e.ag x.e.ag)) k i (jnV x.s.ms v o 0):=by simp[mxX,hop]
  have e2:mxB x i=false:=by simp[mxB,hop]
  rw[e,e2];rw[memP_eq]at h156;generalize memM (ownE x.s.me i x.e.ag x.e.ag) (Go.Ex.ownM x.s.me i (-1))=M at *
  generalize ownE x.s.me i x.e.ag x.e.ag=E at *
  generalize shL (meX (koX x 10 i) M E) k i (jnV x.s.ms v o 0)=Z at *
  simp[xB,xS,xM,aT,fV,fM,fL,fS,xE,eL,eS,hi,hop]at h157;refine ce rfl ?_;simp[h156,h157,hi,hop,h.ho,o1,o2,o3,r1,r2,h.ix.1,h.ix.2]
 ·have h141:=run141 x.s.me h.me i;by_cases c:freM x.s.me i
  ·have h158:=run158 x.s.me h.me i x.e.ag;have h157:=run157L (reX { meX (koX x 11 i) (memM (ownE x.s.me i x.e.ag (-1)) (Go.Ex.ownM x.s.me i x.e.ag)) (ownE x.s.me i x.e.ag (-1)) with e:={ (koX x 11 i).e with rd:=1 } } 1) false k i v o h.hk h.hv h.ho h.hvo h.hm h.hl h.hml h.ix;have e:mxX x k i v o=shL (reX { meX (koX x 11 i) (memM (ownE x.s.me i x.e.ag (-1)) (Go.Ex.ownM x.s.me i x.e.ag)) (ownE x.s.me i x.e.ag (-1)) with e:={ (koX x 11 i).e with rd:=1 } } 1) k i (jnV x.s.ms v o 0):=by simp[mxX,hop,c]
   have e2:mxB x i=false:=by simp[mxB,c]
   rw[e,e2];rw[memP_eq]at h158;rw[c]at h141;generalize memM (ownE x.s.me i x.e.ag (-1)) (Go.Ex.ownM x.s.me i x.e.ag)=M at *
   generalize ownE x.s.me i x.e.ag (-1)=E at *
   generalize shL (reX { meX (koX x 11 i) M E with e:={ (koX x 11 i).e with rd:=1 } } 1) k i (jnV x.s.ms v o 0)=Z at *
   simp[xB,xS,xM,aT,fV,fM,fL,fS,xE,eL,eS,hi,hop]at h157;refine ce rfl ?_;simp[h141,h158,h157,hi,hop,h.ho,o1,o2,o3,r1,r2,h.ix.1,h.ix.2]
  ·have h157:=run157L (koX x 11 i) true k i v o h.hk h.hv h.ho h.hvo h.hm h.hl h.hml h.ix;have e:mxX x k i v o=shL (koX x 11 i) k i (jnV x.s.ms v o 0):=by simp[mxX,hop,c]
   have e2:mxB x i=true:=by simp[mxB,hop,c]
   rw[e,e2];simp only[Bool.not_eq_true]at c;rw[c]at h141;generalize shL (koX x 11 i) k i (jnV x.s.ms v o 0)=Z at *
   simp[xB,xS,xM,aT,fV,fM,fL,fS,xE,eL,eS,hi,hop]at h157;refine ce rfl ?_;simp[h141,h157,hi,hop,h.ho,o1,o2,o3,r1,r2,h.ix.1,h.ix.2]
end Go.Am.E

set_option maxRecDepth 10000
set_option maxHeartbeats 16000000
namespace Go.Am.E
open Go.Proofs Go.Ex Go.Rc
attribute [local simp] MsD same_d same_r same_p same_n same_c ztc7 zuc7 zsc7 pairK zyc7 chgOf slim sameAt meets updT
abbrev kdX (x:Stq) (d:Int):Stq:={ x with e:={ x.e with kind:=d } }
def upX (x:Stq) (k v:Nat) (w:List Int) (c:Nat) (o:Int):Stq:=match c with
 |0=>reX (wrX (rd0 (kdX x 5) k v w) k v 0 (w.set v (-1)) o none) (atV x.p x.s v 0)
 |c+1=>match (gt2 x.s.ms v)[c]? with
  |none=>x
  |some m=>reX (wrX (rd1 (kdX x 5) k v w m) k v (c+1) (if x.e.ord=2 then jnV x.s.ms (w.set v m.ev) m.vw 0 else w.set v m.ev) o (some m.vw)) m.val
theorem run169z (x:Stq) (k v:Nat) (w:List Int) (o:Int) (l:List Msg) (mo:List Int) (hk:x.ix=k) (hi:x.i.o=v) (hc:x.ch=0) (hw:x.s.vs[k]?=some w) (hv:v<w.length) (hl:x.s.ms[v]?=some l) (hmo:x.s.mo[v]?=some mo) (hp:v<x.p.vs.length) (hx:Ix k∧Ix v)
  (hwl:w.length<1000000) (hll:l.length<100000) (hmol:mo.length<1000000):K 169 [.ref ((0,0),0,0) 0,.dat (N o)] (xO x n0 true)=some (.tup [],xO (upX x k v w 0 o) n0 true):=by
 have h167:=run167z (kdX x 5) true k v w hk hi hw hv hp hx;have h168:=run168n (rd0 (kdX x 5) k v w) k v 0 (w.set v (-1)) o l mo hk hi (zre7 (zca7 hw).2.2) (by simpa using hv) hl hmo (by omega) (by omega) ⟨hx.1,hx.2,by unfold Ix;omega⟩ (by simpa using hwl) (by omega) hmol;have hu:upX x k v w 0 o=reX (wrX (rd0 (kdX x 5) k v w) k v 0 (w.set v (-1)) o none) (atV x.p x.s v 0):=rfl;rw[hu];have hrd:(wrX (rd0 (kdX x 5) k v w) k v 0 (w.set v (-1)) o none).e.rd=atV x.p x.s v 0:=rfl;generalize wrX (rd0 (kdX x 5) k v w) k v 0 (w.set v (-1)) o none=Z at *
 generalize atV x.p x.s v 0=A at *
 refine ce rfl ?_;simp[xB,xS,xM,rd0,setV,zrb7,hk,hi,hc]at h167 h168;simp[h167,h168,hk,hi,hc];exact hrd
theorem run169s (x:Stq) (k v c:Nat) (w:List Int) (o:Int) (l:List Msg) (mo:List Int) (m:Msg) (hk:x.ix=k) (hi:x.i.o=v) (hc:x.ch=c+1) (hw:x.s.vs[k]?=some w) (hv:v<w.length) (hl:x.s.ms[v]?=some l) (hm:l[c]?=some m) (hmo:x.s.mo[v]?=some mo) (hx:Ix k∧Ix v)
  (hml':l.length=mo.length) (hwl:w.length<1000000) (hmv:m.vw.length=w.length) (hwm:w.length≤x.s.ms.length) (hml:∀l∈x.s.ms,l.length<100000):K 169 [.ref ((0,0),0,0) 0,.dat (N o)] (xO x n0 true)=some (.tup [],xO (upX x k v w (c+1) o) n0 true):=by
 have hcl:=(zca7 hm).2.2;have hll:=hml l (List.mem_of_getElem? hl);have h167:=run167s (kdX x 5) k v c w l m hk hi hw hv hl hm ⟨hx.1,hx.2,by unfold Ix;omega⟩ hwl (by omega) hwm (fun l h=>by have:=hml l h;omega);have hu:upX x k v w (c+1) o=reX (wrX (rd1 (kdX x 5) k v w m) k v (c+1) (if x.e.ord=2 then jnV x.s.ms (w.set v m.ev) m.vw 0 else w.set v m.ev) o (some m.vw)) m.val:=by simp[upX,zxd7 hl,hm]
 rw[hu];have hwl':(if x.e.ord=2 then jnV x.s.ms (w.set v m.ev) m.vw 0 else w.set v m.ev).length=w.length:=by split<;>simp[zcb7]
 have hw':(rd1 (kdX x 5) k v w m).s.vs[k]?=some (if x.e.ord=2 then jnV x.s.ms (w.set v m.ev) m.vw 0 else w.set v m.ev):=zre7 (zca7 hw).2.2;have h168:=run168s (rd1 (kdX x 5) k v w m) k v (c+1) _ o l mo m.vw hk hi hw' (by omega) hl hmo (by omega) (by omega) ⟨hx.1,hx.2,by unfold Ix;omega⟩ (by omega) hll (by omega) (by omega) (by rw[hwl'];exact hwm) (fun l h=>by have:=hml l h;omega);have hrd:(wrX (rd1 (kdX x 5) k v w m) k v (c+1) (if x.e.ord=2 then jnV x.s.ms (w.set v m.ev) m.vw 0 else w.set v m.ev) o (some m.vw)).e.rd=m.val:=rfl;generalize wrX (rd1 (kdX x 5) k v w m) k v (c+1) (if x.e.ord=2 then jnV x.s.ms (w.set v m.ev) m.vw 0 else w.set v m.ev) o (some m.vw)=Z at *
 generalize hW:(if x.e.ord=2 then jnV x.s.ms (w.set v m.ev) m.vw 0 else w.set v m.ev)=W at *
 have h67:=run67 m.vw (by omega);have r3:=(zca7 (row_get3 (0,6) x.mp hl)).1;have hc1:(0:Int)<(c:Int)+1:=by omega
 have wc:IntKind.wrap .i64 (c:Int)=c:=wrap_i64 (by omega) (by omega);have wc1:IntKind.wrap .i64 ((c:Int)+1)=c+1:=wrap_i64 (by omega) (by omega);have wc2:IntKind.wrap .i64 ((c:Int)+1+1)=c+1+1:=wrap_i64 (by omega) (by omega);obtain⟨l1,l2,l3⟩:=zca7 hl;obtain⟨m1,m2,m3⟩:=zca7 hm;have hrw:rd1 (kdX x 5) k v w m={ setV (kdX x 5) k W with e:={ (kdX x 5).e with rd:=m.val },rf:=m.ev }:=by rw[←hW];rfl
 rw[hrw]at h167 h168;obtain⟨me,mva,mvw⟩:=m;dsimp only at h67 h167 h168 hrd hmv;refine ce rfl ?_;simp[xB,xS,xM,setV,aT,fV,fM,fL,fS,xE,zrb7,hk,hi,hc]at h167 h168;simp[h167,h168,h67,hk,hi,hc,hc1,wc,wc1,wc2,r3,hl,l1,l2,l3,hm,m1,m2,m3];exact hrd
end Go.Am.E

set_option maxRecDepth 10000
set_option maxHeartbeats 16000000
namespace Go.Am.E
open Go.Proofs Go.Ex Go.Rc
attribute [local simp] same_d same_r same_p same_n same_c ztc7 zuc7 zsc7 pairK zyc7 chgOf slim sameAt meets updT
theorem w32_wrap (n:Int):w32 (IntKind.wrap .i64 n)=w32 n:=by
 apply w32_mod;simp[IntKind.wrap,IntKind.bits,IntKind.signed];split<;>omega
structure Ac (p:Pg) (s:Ra) (ix:Int) (i:In) (k v:Nat) (w:List Int) (l:List Msg) (mo:List Int):Prop where
 hk:ix=k
 hi:i.o=v
 hw:s.vs[k]?=some w
 hv:v<w.length
 hl:s.ms[v]?=some l
 hmo:s.mo[v]?=some mo
 he:l.length=mo.length
 hp:v<p.vs.length
 hx:Ix k∧Ix v
 hwl:w.length<1000000
 hwm:w.length≤s.ms.length
 hml:∀l∈s.ms,l.length<100000
 hmv:∀m∈l,m.vw.length=w.length
def rdX (x:Stq) (k v:Nat) (w:List Int) (c:Nat):Stq:=match c with
 |0=>rd0 x k v w
 |c+1=>match (gt2 x.s.ms v)[c]? with
  |none=>x
  |some m=>rd1 x k v w m
theorem run167 (x:Stq) (k v c:Nat) (w:List Int) (l:List Msg) (mo:List Int) (h:Ac x.p x.s x.ix x.i k v w l mo) (hc:c≤l.length):K 167 [.ref ((0,0),0,0) 0,.dat (N c)] (xO x n0 true)=some (.tup [],xO (rdX x k v w c) n0 true):=by
 have:=h.hml l (List.mem_of_getElem? h.hl);cases c with
 |zero=>exact run167z x true k v w h.hk h.hi h.hw h.hv h.hp h.hx
 |succ c=>
  obtain⟨m,hm⟩:∃m,l[c]?=some m:=⟨_,List.getElem?_eq_getElem (show c<l.length by omega)⟩;have e:rdX x k v w (c+1)=rd1 x k v w m:=by simp[rdX,zxd7 h.hl,hm]
  rw[e];exact run167s x k v c w l m h.hk h.hi h.hw h.hv h.hl hm ⟨h.hx.1,h.hx.2,by unfold Ix;omega⟩ h.hwl (by have:=h.hmv m (List.mem_of_getElem? hm);omega) h.hwm (fun l hl=>by have:=h.hml l hl;omega)
theorem run169 (x:Stq) (k v c:Nat) (w:List Int) (l:List Msg) (mo:List Int) (o:Int) (h:Ac x.p x.s x.ix x.i k v w l mo) (hc:c≤l.length) (hch:x.ch=c):K 169 [.ref ((0,0),0,0) 0,.dat (N o)] (xO x n0 true)=some (.tup [],xO (upX x k v w c o) n0 true):=by
 have:=h.hml l (List.mem_of_getElem? h.hl);have:=h.he;cases c with
 |zero=>exact run169z x k v w o l mo h.hk h.hi hch h.hw h.hv h.hl h.hmo h.hp h.hx h.hwl (by omega) (by omega)
 |succ c=>
  obtain⟨m,hm⟩:∃m,l[c]?=some m:=⟨_,List.getElem?_eq_getElem (show c<l.length by omega)⟩;exact run169s x k v c w o l mo m h.hk h.hi (by omega) h.hw h.hv h.hl hm h.hmo h.hx h.he h.hwl (h.hmv m (List.mem_of_getElem? hm)) h.hwm h.hml
abbrev obX (x:Stq) (o r:Int):Stq:={ x with e:={ x.e with obj:=o,ord:=r } }
def acX (x:Stq) (t:Th) (k v:Nat) (w:List Int) (c:Nat):Stq:=
 let y:=obX x x.i.o x.i.r
 if x.i.op=8∨x.i.op=14 then reX (rdX (kdX y (if x.i.op=14 then 8 else 1)) k v w c) (rdX (kdX y (if x.i.op=14 then 8 else 1)) k v w c).e.rd
 else if x.i.op=9 then wrX (kdX y 2) k v (c-1) w (reg t x.i.b) none
 else if x.i.op=10 then upX y k v w c (reg t x.i.b)
 else if x.i.op=11 then upX y k v w c (w32 (atV x.p x.s v c+reg t x.i.b))
 else if atV x.p x.s v c=reg t x.i.b then reX (upX y k v w c (reg t x.i.c)) 1
 else rdX (kdX y 6) k v w c
theorem run97 (x:Stq) (t:Th) (k v c:Nat) (w:List Int) (l:List Msg) (mo:List Int) (h:Ac x.p x.s x.ix x.i k v w l mo) (ht:x.s.th[k]?=some t) (hr:rgs x.i) (hch:x.ch=c)
  (hc:(x.i.op=9∧1≤c∧c≤l.length+1)∨((x.i.op=8∨x.i.op=10∨x.i.op=11∨x.i.op=12∨x.i.op=14)∧c≤l.length)):K 97 [.ref ((0,0),0,0) 0] (xO x n0 true)=some (.tup [],xO (acX x t k v w c) n0 true):=by
 obtain⟨t1,t2,t3⟩:=zca7 ht;obtain⟨-,r2,r3⟩:=hr;have hk:=h.hk;have hi:=h.hi;rcases hc with⟨o,c1,c2⟩|⟨o,c1⟩
 ·rw[o]at r2;obtain⟨j,hj,j1,j2,j3,j4⟩:=rg8 (r2 rfl);have h168:=run168n (kdX (obX x x.i.o x.i.r) 2) k v (c-1) w (t.rg j) l mo h.hk h.hi h.hw h.hv h.hl h.hmo (by omega) (by have:=h.he;omega) ⟨h.hx.1,h.hx.2,by have:=h.hml l (List.mem_of_getElem? h.hl);unfold Ix;omega⟩ h.hwl (by have:=h.hml l (List.mem_of_getElem? h.hl);omega) (by have:=h.he;have:=h.hml l (List.mem_of_getElem? h.hl);omega);have e:acX x t k v w c=wrX (kdX (obX x x.i.o x.i.r) 2) k v (c-1) w (t.rg j) none:=by simp[acX,o,hj,reg]
  have ec:((c-1:Nat):Int)+1=c:=by omega
  rw[e];rw[ec]at h168;generalize wrX (kdX (obX x x.i.o x.i.r) 2) k v (c-1) w (t.rg j) none=Z at *
  refine ce rfl ?_;simp[xB,xS,xM,hk,hi,o,hj,hch]at h168;simp[h168,hk,hi,hch,o,ht,t1,t2,t3,hj,j1,j2,j3,j4,zqb7,zjd7,reg]
 ·have hcb:c<1000000:=by have:=h.hml l (List.mem_of_getElem? h.hl);omega
  have h143:=run143 x.p x.s v c (fun _=>h.hp) (fun hc=>⟨(zca7 h.hl).2.2,by rw[zxd7 h.hl];omega⟩) (by omega);have h167:=fun d=>run167 (kdX (obX x x.i.o x.i.r) d) k v c w l mo h c1
  have h169:=fun o=>run169 (obX x x.i.o x.i.r) k v c w l mo o h c1 hch
  have h100:=run100;rcases o with o|o|o|o|o
  ·have e:acX x t k v w c=reX (rdX (kdX (obX x x.i.o x.i.r) 1) k v w c) (rdX (kdX (obX x x.i.o x.i.r) 1) k v w c).e.rd:=by simp[acX,o]
   rw[e];have h167:=h167 1;generalize rdX (kdX (obX x x.i.o x.i.r) 1) k v w c=Z at *
   refine ce rfl ?_;simp[xB,xS,xM,hk,hi,o,hch]at h167;simp[h167,hk,hi,hch,o,ht,t1,t2,t3]
   done
  ·rw[o]at r2;obtain⟨j,hj,j1,j2,j3,j4⟩:=rg8 (r2 rfl);have e:acX x t k v w c=upX (obX x x.i.o x.i.r) k v w c (t.rg j):=by simp[acX,o,hj,reg]
   rw[e];have h169:=h169 (t.rg j);generalize upX (obX x x.i.o x.i.r) k v w c (t.rg j)=Z at *
   refine ce rfl ?_;simp[xB,xS,xM,hk,hi,o,hj,hch]at h169;simp[h169,hk,hi,hch,o,ht,t1,t2,t3,hj,j1,j2,j3,j4,zqb7,zjd7,reg]
   done
  ·rw[o]at r2;obtain⟨j,hj,j1,j2,j3,j4⟩:=rg8 (r2 rfl);have e:acX x t k v w c=upX (obX x x.i.o x.i.r) k v w c (w32 (atV x.p x.s v c+t.rg j)):=by simp[acX,o,hj,reg]
   rw[e];have h169:=h169 (w32 (atV x.p x.s v c+t.rg j));generalize upX (obX x x.i.o x.i.r) k v w c (w32 (atV x.p x.s v c+t.rg j))=Z at *
   generalize atV x.p x.s v c=A at *
   refine ce rfl ?_;simp[xB,xS,xM,hk,hi,o,hj,hch]at h169;simp[h169,h143,h100,w32_wrap,hk,hi,hch,o,ht,t1,t2,t3,hj,j1,j2,j3,j4,zqb7,zjd7,reg]
   done
  ·rw[o]at r2 r3;obtain⟨j,hj,j1,j2,j3,j4⟩:=rg8 (r2 rfl);obtain⟨u,hu,u1,u2,u3,u4⟩:=rg8 (r3 rfl);by_cases hA:atV x.p x.s v c=t.rg j
   ·have e:acX x t k v w c=reX (upX (obX x x.i.o x.i.r) k v w c (t.rg u)) 1:=by simp[acX,o,hj,hu,reg,hA]
    rw[e];have h169:=h169 (t.rg u);generalize upX (obX x x.i.o x.i.r) k v w c (t.rg u)=Z at *
    rw[hA]at h143;refine ce rfl ?_;simp[xB,xS,xM,hk,hi,o,hj,hu,hch]at h169;simp[h169,h143,hk,hi,hch,o,ht,t1,t2,t3,hj,j1,j2,j3,j4,hu,u1,u2,u3,u4,zqb7,zjd7,reg]
    done
   ·have e:acX x t k v w c=rdX (kdX (obX x x.i.o x.i.r) 6) k v w c:=by simp[acX,o,hj,reg,hA]
    rw[e];have h167:=h167 6;generalize rdX (kdX (obX x x.i.o x.i.r) 6) k v w c=Z at *
    generalize atV x.p x.s v c=A at *
    refine ce rfl ?_;simp[xB,xS,xM,hk,hi,o,hj,hch]at h167;simp[h167,h143,hk,hi,hch,o,ht,t1,t2,t3,hj,j1,j2,j3,j4,zqb7,zjd7,reg,hA]
    done
  ·have e:acX x t k v w c=reX (rdX (kdX (obX x x.i.o x.i.r) 8) k v w c) (rdX (kdX (obX x x.i.o x.i.r) 8) k v w c).e.rd:=by simp[acX,o]
   rw[e];have h167:=h167 8;generalize rdX (kdX (obX x x.i.o x.i.r) 8) k v w c=Z at *
   refine ce rfl ?_;simp[xB,xS,xM,hk,hi,o,hch]at h167;simp[h167,hk,hi,hch,o,ht,t1,t2,t3]
   done
end Go.Am.E

set_option maxRecDepth 10000
set_option maxHeartbeats 8000000
namespace Go.Am.E
open Go.Proofs Go.Ex Go.Rc
attribute [-simp] splice
attribute [local simp] zma7
abbrev sbx (s:Sa):TObj:=.plain (.box ((SXl s).map AVal.dat))
def oldT (L:List Th) (i:Nat) (t:Th):Bool:=match i with
 |0=>true
 |j+1=>match L[j]? with
  |some u=>decide (u.id<t.id)
  |none=>true
def vsF (p:Pg) (bd:Int) (L:List Th) (i:Nat) (t:Th):Option Unit:=if (okT p bd t&&oldT L i t)=true then none else some ()
theorem srt_scan (p:Pg) (bd:Int) (L:List Th):∀(r pre:List Th),L=pre++r→scan (vsF p bd L) r pre.length=if (r.all (okT p bd)&&(match pre.getLast? with
  |none=>srtT r
  |some u=>srtT (u::r)))=true then none else some ()
 |[],pre,_=>by cases pre.getLast?<;>simp[scan,srtT]
 |t::r,pre,h=>by
  have ih:=srt_scan p bd L r (pre++[t]) (by rw[h];simp);rw[List.length_append,List.length_singleton,List.getLast?_append]at ih;simp only[List.getLast?_singleton,Option.some_or]at ih;simp only[scan,vsF,List.all_cons]
  have ho:oldT L pre.length t=match pre.getLast? with
    |none=>true
    |some u=>decide (u.id<t.id):=by
   rcases List.eq_nil_or_concat pre with rfl|⟨q,u,rfl⟩
   ·rfl
   ·rw[h];simp[oldT]
  rw[ho];rcases Bool.eq_false_or_eq_true (okT p bd t) with c|c
  ·rcases hp:pre.getLast? with _|u
   ·simp only[c,Bool.and_self,if_true,Bool.true_and];rw[ih]
    congr
   ·by_cases c2:u.id<t.id
    ·simp only[c,c2,decide_true,Bool.and_self,if_true,Bool.true_and,srtT];rw[ih]
     congr
    ·simp only[c,c2,decide_false,Bool.and_false,if_false,Bool.false_eq_true,srtT,Bool.false_and]
  ·simp only[c,Bool.false_and,if_false,Bool.false_eq_true]
theorem srt_scan0 (p:Pg) (bd:Int) (L:List Th):scan (vsF p bd L) L 0=if (L.all (okT p bd)&&srtT L)=true then none else some ():=srt_scan p bd L L [] rfl
end Go.Am.E

set_option maxRecDepth 10000
set_option maxHeartbeats 8000000
namespace Go.Am.E
open Go.Proofs Go.Ex Go.Rc
abbrev EV (e:Evt):AVal:=.agg [.dat (N e.ag),.dat (N e.idx),.dat (N e.kind),.dat (N e.obj),.dat (N e.mux),.dat (N e.ent),.dat (N e.ord),.dat (N e.rd),.dat (N e.wr)]
def waiE (t:Th) (i:In) (e:Evt):Evt:=if t.ph=0 then { e with kind:=12,mux:=i.n } else if t.ph=1 then { e with kind:=13 } else { e with kind:=9,obj:=i.n }
structure Pn (p:Pg) (m:Me) (i:In):Prop where
 hp:chP p=0
 hm:valM p m=true
 ii:∃n,insE p n i=0
theorem Pn.reg {p:Pg} {m:Me} {i:In} (h:Pn p m i):rgs i:=by
 obtain⟨n,hn⟩:=h.ii;exact (chI_ok (zpe7 hn).1).2.1
theorem Pn.len {p:Pg} {m:Me} {i:In} (h:Pn p m i):frmM m=true∧m.va.length=p.vs.length∧m.ow.length=p.ms.length∧m.qu.length=p.cs.length:=by
 have:=h.hm;simp only[valM,Bool.and_eq_true,decide_eq_true_eq]at this;exact⟨this.1.2,this.2⟩
theorem inE_in {m:Me} {i:Int} {n:Nat} (h:frmM m=true) (h0:0≤i) (h1:i<n):inE m i n=0:=by
 unfold inE;rw[if_neg (by simp[h]),if_neg (by omega)]
theorem Pn.va {p:Pg} {m:Me} {i:In} (h:Pn p m i) (ho:i.op=8∨i.op=9∨i.op=10∨i.op=11∨i.op=12∨i.op=14):inE m i.o m.va.length=0:=by
 obtain⟨n,hn⟩:=h.ii;obtain⟨l1,l2,l3,l4⟩:=h.len;have h1:=(zpe7 hn).2.2.1;have e:nob p i.op=p.vs.length:=by unfold nob;rw[if_pos ho]
 rw[e]at h1;have:=h1 (by omega);exact inE_in l1 (by omega) (by omega)
theorem Pn.ow {p:Pg} {m:Me} {i:In} (h:Pn p m i) (ho:i.op=15∨i.op=16∨i.op=17):inE m i.o m.ow.length=0:=by
 obtain⟨n,hn⟩:=h.ii;obtain⟨l1,l2,l3,l4⟩:=h.len;have h1:=(zpe7 hn).2.2.1;have e:nob p i.op=p.ms.length:=by unfold nob;rw[if_neg (by omega),if_pos ho]
 rw[e]at h1;have:=h1 (by omega);exact inE_in l1 (by omega) (by omega)
theorem Pn.qu {p:Pg} {m:Me} {i:In} (h:Pn p m i) (ho:i.op=18∨i.op=19∨i.op=20):inE m i.o m.qu.length=0:=by
 obtain⟨n,hn⟩:=h.ii;obtain⟨l1,l2,l3,l4⟩:=h.len;have h1:=(zpe7 hn).2.2.1;have e:nob p i.op=p.cs.length:=by unfold nob;rw[if_neg (by omega),if_neg (by omega),if_pos ho]
 rw[e]at h1;have:=h1 (by omega);exact inE_in l1 (by omega) (by omega)
def accE (m:Me) (t:Th) (i:In) (e:Evt):Evt:=
 let v:=geti m.va i.o
 let e:Evt:={ e with ord:=i.r,rd:=v,kind:=5 }
 if i.op=8 then { e with kind:=1 }
 else if i.op=14 then { e with kind:=8 }
 else if i.op=9 then { e with kind:=2,rd:=0,wr:=reg t i.b }
 else if i.op=10 then { e with wr:=reg t i.b }
 else if i.op=11 then { e with wr:=Go.Ex.appF 1 v (reg t i.b) }
 else if v=reg t i.b then { e with wr:=reg t i.c } else { e with kind:=6 }
end Go.Am.E

set_option maxRecDepth 10000
set_option maxHeartbeats 8000000
namespace Go.Am.E
open Go.Proofs Go.Ex Go.Rc
end Go.Am.E

set_option maxRecDepth 10000
set_option maxHeartbeats 8000000
namespace Go.Am.E
open Go.Proofs Go.Ex Go.Rc
attribute [-simp] splice
attribute [local simp] zma7
structure Vs (p:Pg) (bd:Int) (s:Sa):Prop where
 m:valM p s.me=true
 b:s.bu=[]
 t:∀t∈s.th,okT p bd t=true
 s:srtT s.th=true
def agT (p:Pg) (s:Sa) (t:Th):Option Int:=match penT p t with
 |some i=>if enaS s t i then some t.id else none
 |none=>none
def ags' (p:Pg) (s:Sa) (k:Nat):List Int:=(s.th.take k).filterMap (agT p s)
end Go.Am.E

set_option maxRecDepth 10000
set_option maxHeartbeats 8000000
namespace Go.Am.E
open Go.Proofs Go.Ex Go.Rc
abbrev ED0:Dat:=.agg [N 0,N 0,N 0,N 0,N 0,N 0,N 0,N 0,N 0]
def lblS (p:Pg) (s:Sa) (a:Int):Option Evt:=if valS p 32 s=true then (match Go.Ex.runS p s a with
 |some (_,t,i)=>some (labS s t i)
 |none=>none) else none
def evP:Option Evt→AVal
 |some e=>.tup [.dat (ED e),.dat (.bool true)]
 |none=>.tup [.dat ED0,.dat (.bool false)]
theorem Mb.sq {m:Me} (h:Mb m) (c:Int):m.sg.length+(getq m c).length<1000000000:=by
 have h1:=h.sg
 have:(getq m c).length<400000000:=by
  unfold getq;cases c1:m.qu[c.toNat]? with
  |none=>simp
  |some q=>exact h.qs q (List.mem_of_getElem? c1)
 omega
theorem ownM_mb {m:Me} (h:Mb m) (i v:Int):Mb (ownM m i v):=⟨h.va,by simp[ownM];exact h.ow,h.qu,h.qs,h.sg⟩
end Go.Am.E

set_option maxRecDepth 10000
set_option maxHeartbeats 16000000
namespace Go.Am.E
open Go.Proofs Go.Ex Go.Rc
attribute [local simp] MsD same_d same_r same_p same_n same_c ztc7 zuc7 zsc7 pairK zyc7 chgOf slim sameAt meets updT
theorem wakP_eq (e:Int) (m:Me) (n:Nat):wakP e m n=.tup [.dat (MD (memM e m)),.dat (N (if e=0 then (n:Int) else 0)),.dat (N e)]:=by
 unfold wakP memM;split
 ·rename_i h;rw[h]
 ·rfl
structure Cn (s:Ra) (ix:Int) (k c:Nat) (v u:List Int):Prop where
 hk:ix=k
 hv:s.vs[k]?=some v
 hu:s.sg[c]?=some u
 hvu:v.length=u.length
 hm:v.length≤s.ms.length
 hl:v.length<1000000
 hml:∀l∈s.ms,l.length<1000000
 ix:Ix k∧Ix c
 me:Mb s.me
abbrev rdE (x:Stq) (d:Int):Stq:={ x with e:={ x.e with rd:=d } }
abbrev muX (x:Stq) (d:Int):Stq:={ x with e:={ x.e with mux:=d } }
def sgX (x:Stq) (k c:Nat) (v u:List Int):Stq:=
 if x.i.op=19 then shS (rdE (meX (koX x 14 c) (memM (inE x.s.me c x.s.me.qu.length) (wakM x.s.me c (min 1 (getq x.s.me c).length))) (inE x.s.me c x.s.me.qu.length)) (if inE x.s.me c x.s.me.qu.length=0 then ((min 1 (getq x.s.me c).length:Nat):Int) else 0)) k c (jnV x.s.ms v u 0)
 else shS (rdE (meX (koX x 15 c) (memM (inE x.s.me c x.s.me.qu.length) (wakM x.s.me c (getq x.s.me c).length)) (inE x.s.me c x.s.me.qu.length)) (if inE x.s.me c x.s.me.qu.length=0 then ((getq x.s.me c).length:Int) else 0)) k c (jnV x.s.ms v u 0)
theorem run94 (x:Stq) (k c:Nat) (v u:List Int) (h:Cn x.s x.ix k c v u) (hi:x.i.o=c) (hop:x.i.op=19∨x.i.op=20):K 94 [.ref ((0,0),0,0) 0] (xO x n0 true)=some (.tup [],xJ (sgX x k c v u) x.s.me):=by
 obtain⟨u1,u2,u3⟩:=zca7 h.hu;have r1:=(zca7 (zwb7 (0,9) x.sp h.hu)).1;have hsq:=h.me.sq c;unfold sgX;rcases hop with hop|hop
 ·have h161:=run161 x.s.me h.me c hsq;rw[if_pos hop];rw[wakP_eq]at h161;generalize memM (inE x.s.me c x.s.me.qu.length) (wakM x.s.me c (min 1 (getq x.s.me c).length))=M at *
  generalize (if inE x.s.me c x.s.me.qu.length=0 then ((min 1 (getq x.s.me c).length:Nat):Int) else 0)=R at *
  generalize inE x.s.me c x.s.me.qu.length=E at *
  have h157:=run157S (rdE (meX (koX x 14 c) M E) R) k c v u h.hk h.hv h.hu h.hvu h.hm h.hl h.hml h.ix;generalize shS (rdE (meX (koX x 14 c) M E) R) k c (jnV x.s.ms v u 0)=Z at *
  simp[xB,xS,xM,aT,fV,fM,fL,fS,xE,eL,eS,hi,hop]at h157;refine ce rfl ?_;simp[h161,h157,hi,hop,h.hu,u1,u2,u3,r1,h.ix.1,h.ix.2]
 ·have h162:=run162 x.s.me h.me c hsq;rw[if_neg (by omega)];rw[wakP_eq]at h162;generalize memM (inE x.s.me c x.s.me.qu.length) (wakM x.s.me c (getq x.s.me c).length)=M at *
  generalize (if inE x.s.me c x.s.me.qu.length=0 then ((getq x.s.me c).length:Int) else 0)=R at *
  generalize inE x.s.me c x.s.me.qu.length=E at *
  have h157:=run157S (rdE (meX (koX x 15 c) M E) R) k c v u h.hk h.hv h.hu h.hvu h.hm h.hl h.hml h.ix;generalize shS (rdE (meX (koX x 15 c) M E) R) k c (jnV x.s.ms v u 0)=Z at *
  simp[xB,xS,xM,aT,fV,fM,fL,fS,xE,eL,eS,hi,hop]at h157;refine ce rfl ?_;simp[h162,h157,hi,hop,h.hu,u1,u2,u3,r1,h.ix.1,h.ix.2]
def wtX (x:Stq) (t:Th) (k i c:Nat) (v o u:List Int):Stq:=
 if t.ph=0 then
  (if ownE x.s.me i x.e.ag x.e.ag=0 then shW (meX (muX (koX x 12 c) i) (memM (enqE (Go.Ex.ownM x.s.me i (-1)) c x.e.ag) (enqM (Go.Ex.ownM x.s.me i (-1)) c x.e.ag)) (enqE (Go.Ex.ownM x.s.me i (-1)) c x.e.ag)) k i c v o u
  else shW (meX (muX (koX x 12 c) i) ⟨[],[],[],[]⟩ (ownE x.s.me i x.e.ag x.e.ag)) k i c v o u)
 else if t.ph=1 then shS (meX (koX x 13 c) (memM (wakE x.s.me x.e.ag) (wokM x.s.me x.e.ag)) (wakE x.s.me x.e.ag)) k c (jnV x.s.ms v u 0)
 else tkX x k i v o
theorem run93 (x:Stq) (t:Th) (k i c:Nat) (v o u:List Int) (h:Mx x.s x.ix k i v o) (h':Cn x.s x.ix k c v u) (ht:x.s.th[k]?=some t) (hi:x.i.o=c) (hn:x.i.n=i):K 93 [.ref ((0,0),0,0) 0] (xO x n0 true)=some (.tup [],xJ (wtX x t k i c v o u) x.s.me):=by
 obtain⟨t1,t2,t3⟩:=zca7 ht;obtain⟨o1,o2,o3⟩:=zca7 h.ho;obtain⟨u1,u2,u3⟩:=zca7 h'.hu;have r1:=(zca7 (zwb7 (0,9) x.sp h'.hu)).1;have r2:=(zca7 (zwb7 (0,8) x.lp h.ho)).1;have hk:=h.hk;unfold wtX;by_cases p0:t.ph=0
 ·rw[if_pos p0];have h156:=run156 x.s.me h.me i x.e.ag;rw[memP_eq]at h156;by_cases e0:ownE x.s.me i x.e.ag x.e.ag=0
  ·rw[if_pos e0];rw[e0]at h156;have h159:=run159 (Go.Ex.ownM x.s.me i (-1)) (ownM_mb h.me i (-1)) c x.e.ag;rw[memP_eq]at h159;have eM:memM 0 (Go.Ex.ownM x.s.me i (-1))=Go.Ex.ownM x.s.me i (-1):=rfl;rw[eM]at h156;generalize memM (enqE (Go.Ex.ownM x.s.me i (-1)) c x.e.ag) (enqM (Go.Ex.ownM x.s.me i (-1)) c x.e.ag)=M at *
   generalize enqE (Go.Ex.ownM x.s.me i (-1)) c x.e.ag=E at *
   generalize Go.Ex.ownM x.s.me i (-1)=M1 at *
   have h157:=run157W (meX (muX (koX x 12 c) i) M E) k i c v o u h.hk h.hv h.ho h'.hu h.hvo h'.hvu h.hm h.hl h.hml ⟨h.ix.1,h.ix.2,h'.ix.2⟩;generalize shW (meX (muX (koX x 12 c) i) M E) k i c v o u=Z at *
   simp[xB,xS,xM,aT,fV,fM,fL,fS,xE,eL,eS,hi,hn,hk]at h157;refine ce rfl ?_;simp[ht,t1,t2,t3,p0,h156,h159,h157,hi,hn,hk,h.ho,o1,o2,o3,h'.hu,u1,u2,u3,r1,r2,h.ix.1,h.ix.2,h'.ix.2]
  ·rw[if_neg e0];have eM:memM (ownE x.s.me i x.e.ag x.e.ag) (Go.Ex.ownM x.s.me i (-1))=⟨[],[],[],[]⟩:=if_neg e0;rw[eM]at h156;generalize ownE x.s.me i x.e.ag x.e.ag=E at *
   have h157:=run157W (meX (muX (koX x 12 c) i) ⟨[],[],[],[]⟩ E) k i c v o u h.hk h.hv h.ho h'.hu h.hvo h'.hvu h.hm h.hl h.hml ⟨h.ix.1,h.ix.2,h'.ix.2⟩;generalize shW (meX (muX (koX x 12 c) i) ⟨[],[],[],[]⟩ E) k i c v o u=Z at *
   simp[xB,xS,xM,aT,fV,fM,fL,fS,xE,eL,eS,hi,hn,hk]at h157;refine ce rfl ?_;simp[ht,t1,t2,t3,p0,e0,h156,h157,hi,hn,hk,h.ho,o1,o2,o3,h'.hu,u1,u2,u3,r1,r2,h.ix.1,h.ix.2,h'.ix.2]
 ·rw[if_neg p0];by_cases p1:t.ph=1
  ·rw[if_pos p1];have h160:=run160 x.s.me h.me x.e.ag;rw[memP_eq]at h160;generalize memM (wakE x.s.me x.e.ag) (wokM x.s.me x.e.ag)=M at *
   generalize wakE x.s.me x.e.ag=E at *
   have h157:=run157S (meX (koX x 13 c) M E) k c v u h.hk h.hv h'.hu h'.hvu h.hm h.hl h.hml h'.ix;generalize shS (meX (koX x 13 c) M E) k c (jnV x.s.ms v u 0)=Z at *
   simp[xB,xS,xM,aT,fV,fM,fL,fS,xE,eL,eS,hi,hn,hk]at h157;refine ce rfl ?_;simp[ht,t1,t2,t3,p0,p1,h160,h157,hi,hn,hk,h'.hu,u1,u2,u3,r1,h.ix.1,h'.ix.2]
  ·rw[if_neg p1];have h155:=run155 x k i v o h;generalize tkX x k i v o=Z at *
   simp[xB,xS,xM,hi,hn,hk]at h155;refine ce rfl ?_;simp[ht,t1,t2,t3,p0,p1,h155,hi,hn,hk,h.ix.1]
end Go.Am.E

set_option maxRecDepth 10000
set_option maxHeartbeats 8000000
namespace Go.Am.E
open Go.Proofs Go.Ex Go.Rc
@[simp] theorem cNP (p:Int×Int):(NP p).cells.length=2:=rfl
@[simp] theorem cBD (b:Bu):(BD b).cells.length=3:=rfl
abbrev nil6:TObj:=.plain (.box [.nils,.nils,.nils,.nils,.nils,.nils])
abbrev tA (v:Nat) (l:List Th):TObj:=.plain (.arr 17 v false (l.map TD))
abbrev bA (v:Nat) (l:List Bu):TObj:=.plain (.arr 3 v false (l.map BD))
abbrev fQ (m:Me):TObj:=.fam 0 m.qu.length false (m.qu.map ownC)
abbrev SV (s:Sa):AVal:=.agg [.rsl ((0,0),0,0) 0 17 0 s.th.length,.rsl ((0,1),0,0) 0 1 0 s.me.va.length,.rsl ((0,2),0,0) 0 1 0 s.me.ow.length,.rsl ((0,3),0,0) 0 1 0 s.me.qu.length,.rsl ((0,4),0,0) 0 1 0 s.me.sg.length,.rsl ((0,5),0,0) 0 3 0 s.bu.length]
abbrev SO (s:Sa):List TObj:=[tA 0 s.th,aI 0 s.me.va,aI 0 s.me.ow,fQ s.me,aI 0 s.me.sg,bA 0 s.bu]
abbrev X252 (s:Sa):zsa7:=[((2,0),sbx s),((3,0),nil6),((4,0),.plain (.box [.rsl ((4,1),0,0) 0 17 0 s.th.length,.rsl ((4,2),0,0) 0 1 0 s.me.va.length,.rsl ((4,3),0,0) 0 1 0 s.me.ow.length,.rsl ((4,4),0,0) 0 1 0 s.me.qu.length,.rsl ((4,5),0,0) 0 1 0 s.me.sg.length,.nils])),
 ((4,1),tA 0 s.th),((4,2),aI 0 s.me.va),((4,3),aI 0 s.me.ow),((4,4),fQ s.me),((4,5),aI 0 s.me.sg)]
abbrev X252b (s:Sa):zsa7:=[((2,0),sbx s),((3,0),nil6),((4,0),.plain (.box [.rsl ((4,1),0,0) 0 17 0 s.th.length,.rsl ((4,2),0,0) 0 1 0 s.me.va.length,.rsl ((4,3),0,0) 0 1 0 s.me.ow.length,.rsl ((4,4),0,0) 0 1 0 s.me.qu.length,.rsl ((4,5),0,0) 0 1 0 s.me.sg.length,.rsl ((4,6),0,0) 0 3 0 s.bu.length])),
 ((4,1),tA 0 s.th),((4,2),aI 0 s.me.va),((4,3),aI 0 s.me.ow),((4,4),fQ s.me),((4,5),aI 0 s.me.sg),((4,6),bA 0 s.bu)]
abbrev R252:Env:=[(1,.ref ((2,0),0,0) 0),(2,.ref ((3,0),0,0) 0),(3,.ref ((4,0),0,0) 0)]
end Go.Am.E

set_option maxRecDepth 10000
set_option maxHeartbeats 8000000
namespace Go.Am.E
open Go.Proofs Go.Ex Go.Rc
def posT (id:Int):List Th→Nat
 |[]=>0
 |t::r=>if t.id<id then posT id r+1 else 0
theorem posT_le (id:Int):∀l:List Th,posT id l≤l.length
 |[]=>Nat.le_refl _
 |t::r=>by
  have:=posT_le id r;simp only[posT,List.length_cons];split<;>omega
def psF (id:Int) (i:Nat) (t:Th):Option Nat:=if t.id<id then none else some i
theorem psF_scan (id:Int):∀(l:List Th) (k:Nat),(match scan (psF id) l k with|some i=>i|none=>k+l.length)=k+posT id l
 |[],k=>rfl
 |t::r,k=>by
  have ih:=psF_scan id r (k+1);by_cases c:t.id<id
  ·simp only[scan,psF,c,if_true,posT,List.length_cons];rw[show k+(r.length+1)=k+1+r.length by omega,ih];omega
  ·simp only[scan,psF,c,if_false,posT];rfl
abbrev NV6:AVal:=.agg [.nils,.nils,.nils,.nils,.nils,.nils]
theorem decL_dat (ρ:Look):∀{l:List Dat},(∀d∈l,d.isAgg=false)→zqa7 ρ (l.map AVal.dat)=some (l,[])
 |[],_=>rfl
 |d::r,h=>by
  have ih:=decL_dat ρ (l:=r) fun x hx=>h x (by simp[hx])
  simp only[List.map_cons,zqa7,zpb7,ih,h d (by simp)];simp
@[simp] theorem TDc_decL (ρ:Look) (t:Th):zqa7 ρ (TDc t)=some (TDl t,[]):=decL_dat ρ (TDl_noagg t)
abbrev B255 (p:Pg) (s:Sa) (t:Th):zsa7:=[((0,0),tA 0 s.th),((0,1),aI 0 s.me.va),((0,2),aI 0 s.me.ow),((0,3),fQ s.me),((0,4),aI 0 s.me.sg),((0,5),bA 0 s.bu),((7,0),pbox p),
 ((9,0),.plain (.box [.rsl ((0,0),0,0) 0 17 0 s.th.length,.rsl ((0,1),0,0) 0 1 0 s.me.va.length,.rsl ((0,2),0,0) 0 1 0 s.me.ow.length,.rsl ((0,3),0,0) 0 1 0 s.me.qu.length,.rsl ((0,4),0,0) 0 1 0 s.me.sg.length,.rsl ((0,5),0,0) 0 3 0 s.bu.length])),
 ((13,0),nil6),((17,0),.plain (.box (TDc t)))]
abbrev E255 (id:Int):Env:=[(3,.dat (N id)),(8,.ref ((9,0),0,0) 0),(12,.ref ((13,0),0,0) 0),(16,.ref ((17,0),0,0) 0)]
abbrev E255':Env:=[(8,.ref ((9,0),0,0) 0),(12,.ref ((13,0),0,0) 0),(16,.ref ((17,0),0,0) 0)]
def Q255 (p:Pg) (s:Sa) (t:Th) (k:Nat) (q:AEx×St):Prop:=q.1=.exit 0∧hd [8,12,16,18] [] q.2=some ⟨E255'++[(18,.dat (N k))],B255 p s t⟩
abbrev SV7 (s:Sa) (l:List Th):AVal:=.agg [.rsl ((0,6),0,0) 0 17 0 l.length,.rsl ((0,1),0,0) 0 1 0 s.me.va.length,.rsl ((0,2),0,0) 0 1 0 s.me.ow.length,.rsl ((0,3),0,0) 0 1 0 s.me.qu.length,.rsl ((0,4),0,0) 0 1 0 s.me.sg.length,.rsl ((0,5),0,0) 0 3 0 s.bu.length]
end Go.Am.E

set_option maxRecDepth 10000
set_option maxHeartbeats 8000000
namespace Go.Am.E
open Go.Proofs Go.Ex Go.Rc
theorem setl_same (p:Pg) (bd:Int):∀(k:Nat) (t:Th),(setl p bd k t).id=t.id∧(setl p bd k t).fn=t.fn∧(setl p bd k t).hd=t.hd
 |k,t=>by
  rw[setl];split
  ·exact⟨rfl,rfl,rfl⟩
  ·rename_i i hi;split
   ·split
    ·exact⟨rfl,rfl,rfl⟩
    ·split<;>exact⟨rfl,rfl,rfl⟩
   ·cases k with
    |zero=>exact⟨rfl,rfl,rfl⟩
    |succ k=>
     have h:=locT_same t i;simp only;split
     ·rename_i t' hl;rw[hl]at h;have ih:=setl_same p bd k t';exact⟨ih.1.trans h.1,ih.2.1.trans h.2.1,ih.2.2.trans h.2.2⟩
     ·rename_i t' hl;rw[hl]at h;exact h
end Go.Am.E

set_option maxRecDepth 10000
set_option maxHeartbeats 16000000
namespace Go.Am.E
open Go.Proofs Go.Ex Go.Rc
def stepR (r:Res):AVal×List TObj:=if r.1=0 then (.tup [SV r.2.1,EV r.2.2,.dat (N 0)],SO r.2.1) else (.tup [NV6,EV noEv,.dat (N r.1)],[])
theorem cmpT_id {p:Pg} {bd:Int} {t:Th} {v:Int}:(cmpT p bd t v).id=t.id:=by
 unfold cmpT;split
 ·rw[(setl_same _ _ _ _).1,(nxtT_same _ _ _).2.1]
 ·rfl
theorem newT_id (p:Pg) (bd id fn arg:Int):(newT p bd id fn arg).id=id:=by
 unfold newT;rw[(setl_same _ _ _ _).1];rfl
end Go.Am.E

set_option maxRecDepth 10000
set_option maxHeartbeats 16000000
namespace Go.Am.E
open Go.Proofs Go.Ex Go.Rc
attribute [local simp] same_d same_r same_p same_n same_c ztc7 zuc7 zsc7 pairK zyc7 chgOf slim sameAt meets updT
theorem run164 (tv n i v2:Nat) (th:List Th) (c:Th) (hn:n=th.length) (hi:i≤n) (hl:th.length<1000000):K 164 [.rsl ((0,0),0,0) tv 17 0 n,.dat (N i),.rsl ((0,1),0,0) v2 17 0 1] [.plain (.arr 17 tv false (th.map TD)),.plain (.arr 17 v2 false [TD c])]=
  some (.rsl ((0,0),0,0) (tv+1) 17 0 (n+1),[.plain (.arr 17 (tv+1) false ((ins th i c).map TD)),.plain (.arr 17 v2 false [TD c])]):=by
 subst hn;refine zhf7 rfl ?_;have e:(ins th i c).map TD=insD (th.map TD) i (TD c):=by simp[ins,insD]
 have hi':(i:Int)≤th.length:=by omega
 have hi0:(0:Int)≤i:=by omega
 have hr:(th.length+1)*(152+1)≤1099511627776:=by omega
 simp only[tblE,lawE,memoL,insV];rw[e];simp[insK,zpa7,flatE,hi',hi0,hr,inPos,putAll]
abbrev dC (q:List Int):Cell:=.d (q.map N)
theorem run165 (vp n i v2 k:Nat) (vs:List (List Int)) (w:List Int) (hk:vs[k]?=some w) (hn:n=vs.length) (hi:i≤n) (hl:vs.length<1000000):K 165 [.rsl ((0,0),0,0) 0 1 0 n,.dat (N i),.rsl ((0,1),0,0) v2 1 0 1] [.fam 0 vp false ((vs.map ownC).set k (.own true true 1 (w.map N))),.plain (.arr 1 v2 false [.sl (w.map N)])]=
  some (.rsl ((0,0),0,0) 1 1 0 (n+1),[.fam 1 (vp+1) false ((ins vs i w).map dC),.plain (.arr 1 v2 false [.sl (w.map N)])]):=by
 subst hn;refine zhf7 rfl ?_;have hi':(i:Int)≤vs.length:=by omega
 have hi0:(0:Int)≤i:=by omega
 have hr:(vs.length+1)*(24+1)≤1099511627776:=by omega
 have e1:((vs.map ownC).set k (.own true true 1 (w.map N))).map Cell.dat=vs.map Ns:=by
  rw[List.map_set,List.map_map]
  show (vs.map Ns).set k (Ns w)=vs.map Ns
  exact set_sameV Ns hk
 have e2:((vs.map ownC).set k (.own true true 1 (w.map N))).all Cell.fresh=true:=by
  rw[List.all_eq_true];intro c hc;rcases List.mem_or_eq_of_mem_set hc with hc|rfl
  ·obtain⟨q,-,rfl⟩:=List.mem_map.1 hc;rfl
  ·rfl
 have e3:famD (insD (vs.map Ns) i (.sl (w.map N)))=(ins vs i w).map dC:=by
  simp[famD,insD,ins,slOf];rfl
 simp only[tblE,lawE,memoL,insV,insF];simp[hi',hi0,hr,e2];have e4:(vs.map Ns).set k (.sl (w.map N))=vs.map Ns:=set_sameV Ns hk;rw[e4];exact e3
def spX (x:Stq) (k n:Nat) (w:List Int) (c:Th):Stq:={ x with s:={ x.s with th:=ins x.s.th n c,vs:=ins x.s.vs n w },e:={ x.e with kind:=16,obj:=c.id },re:=c.id,ix:=if n≤k then (k:Int)+1 else k,tv:=x.tv+1,vp:=x.vp+1 }
abbrev xQB (x:Stq):TObj:=.plain (.box ((PDl x.p).map AVal.dat++.dat (N x.bd)::(xS x n0 true).take 6++[.rsl ((0,7),0,0) 1 1 0 x.s.vs.length]++(xS x n0 true).drop 7++.dat (N x.ix)::.dat (N x.ch)::[.dat (N x.i.op),.dat (N x.i.a),.dat (N x.i.b),.dat (N x.i.c),.dat (N x.i.o),.dat (N x.i.n),.dat (N x.i.f),.dat (N x.i.r),.dat (N x.e.ag),.dat (N x.e.idx),.dat (N x.e.kind),.dat (N x.e.obj),.dat (N x.e.mux),.dat (N x.e.ent),.dat (N x.e.ord),.dat (N x.e.rd),.dat (N x.e.wr),.dat (N x.rf),.dat (N x.re),.dat (N x.er)]))
abbrev xQ (x:Stq):List TObj:=xQB x::aT x::xM x true++fM x::.fam 1 x.vp false (x.s.vs.map dC)::fL x::fS x::xE x
abbrev erX (x:Stq) (e:Int):Stq:={ x with er:=e }
theorem run95e (x:Stq) (t:Th) (k:Nat) (hf:Fit x.p) (hk:x.ix=k) (ht:x.s.th[k]?=some t) (hix:Ix k) (hid:t.id<10000000000000) (hl:x.s.th.length<1000000) (hr:rgs x.i) (hop:x.i.op=21)
  (he:∀c,chd t=some c→(fndT x.s.th c).isSome=true∨newE x.p x.bd c x.i.o (reg t x.i.b)≠0) (hc:∀c,chd t=some c→c<100000000000000):K 95 [.ref ((0,0),0,0) 0] (xO x n0 true)=some (.tup [],xO (erX x 30) n0 true):=by
 obtain⟨t1,t2,t3⟩:=zca7 ht;have r2:=hr.2.1;rw[hop]at r2;obtain⟨j,hj,j1,j2,j3,j4⟩:=rg8 (r2 rfl);have h163:=run163 t (by omega);unfold chdP at h163;cases h1:chd t with
 |none=>
  rw[h1]at h163;have h36:=run36 x.s.th 0 (by omega);unfold fndP at h36;refine ce rfl ?_;cases h2:fndT x.s.th 0<;>rw[h2]at h36<;>simp at h163 h36<;>simp[ht,t1,t2,t3,hk,hix,h163,h36]
 |some c=>
  rw[h1]at h163;have h36:=run36 x.s.th c (by omega);unfold fndP at h36;cases h2:fndT x.s.th c with
  |some i=>
   rw[h2]at h36;refine ce rfl ?_;simp at h163 h36;simp[ht,t1,t2,t3,hk,hix,h163,h36]
  |none=>
   rw[h2]at h36
   have hE:newE x.p x.bd c x.i.o (reg t x.i.b)≠0:=by
    have:=he c h1;rw[h2]at this;simpa using this
   have h61:=run61 x.p hf x.bd c x.i.o (reg t x.i.b) (hc c h1);unfold newP at h61;rw[if_neg hE]at h61;generalize newE x.p x.bd c x.i.o (reg t x.i.b)=E at *
   refine ce rfl ?_;simp[hj,reg]at h61;simp at h163 h36;simp[ht,t1,t2,t3,hk,hix,h163,h36,h61,hj,j1,j2,j3,j4,zqb7,zjd7,reg,hE]
@[simp] abbrev B95 (x:Stq) (t C:Th):zsa7:=enum 0 (xO x n0 true)++[((3,0),.plain (.box (TDc t))),((8,0),.plain (.box (TDc C)))]
def Q95 (x:Stq) (t C:Th) (n:Nat) (q:AEx×St):Prop:=q.1=.exit 0∧hd [0,7,9] [] q.2=some ⟨[(0,.ref ((0,0),0,0) 0),(7,.ref ((8,0),0,0) 0),(9,.dat (N n))],B95 x t C⟩
theorem loop95 (x:Stq) (t C:Th) (c:Int) (hl:x.s.th.length<1000000) (st:St) (h:hd [0,3,7,9] [] st=some ⟨[(0,.ref ((0,0),0,0) 0),(3,.dat (N c)),(7,.ref ((8,0),0,0) 0),(9,.dat (N 0))],B95 x t C⟩):
  Ev (zga7 (exec K l95_0) st) (Q95 x t C (posT c x.s.th)):=by
 have e:=psF_scan c x.s.th 0;simp only[Nat.zero_add]at e;rw[←e]
 refine (zvb7 (live:=[0,3,7,9]) (drop:=[]) x.s.th (psF c) (by omega) (fun n=>⟨[(0,.ref ((0,0),0,0) 0),(3,.dat (N c)),(7,.ref ((8,0),0,0) 0),(9,.dat (N n))],B95 x t C⟩) (Q95 x t C x.s.th.length) (fun n=>Q95 x t C n)
  (fun i y s' h1 h2 h3 ix hs'=>?_) (fun s' hs'=>?_) st h).mono ?_
 ·by_cases cc:y.id<c<;>simp[hs',h1,h2,h3,ix,psF,cc,Q95,enum,xM,xB,xS]
 ·simp[hs',Q95,enum,xM,xB,xS]
 ·intro q hq;cases cc:scan (psF c) x.s.th 0<;>rw[cc]at hq<;>exact hq
theorem run95 (x:Stq) (t:Th) (k:Nat) (w:List Int) (c:Int) (hf:Fit x.p) (hk:x.ix=k) (ht:x.s.th[k]?=some t) (hw:x.s.vs[k]?=some w) (hwl:w.length<1000000) (hix:Ix k) (hid:t.id<10000000000000) (hl:x.s.th.length<1000000) (hvl:x.s.vs.length=x.s.th.length) (hr:rgs x.i) (hop:x.i.op=21)
  (h1:chd t=some c) (h2:fndT x.s.th c=none) (h3:newE x.p x.bd c x.i.o (reg t x.i.b)=0) (hc:c<100000000000000):K 95 [.ref ((0,0),0,0) 0] (xO x n0 true)=some (.tup [],xQ (spX x k (posT c x.s.th) w (newT x.p x.bd c x.i.o (reg t x.i.b)))):=by
 obtain⟨t1,t2,t3⟩:=zca7 ht;have r2:=hr.2.1;rw[hop]at r2;obtain⟨j,hj,j1,j2,j3,j4⟩:=rg8 (r2 rfl);have h163:=run163 t (by omega);unfold chdP at h163;rw[h1]at h163;have h36:=run36 x.s.th c (by omega);unfold fndP at h36;rw[h2]at h36;have h61:=run61 x.p hf x.bd c x.i.o (reg t x.i.b) hc;unfold newP at h61;rw[if_pos h3]at h61;simp[hj,reg]at h61;simp at h163 h36;have hCi:=newT_id x.p x.bd c x.i.o (reg t x.i.b);generalize hC:newT x.p x.bd c x.i.o (reg t x.i.b)=C at *
 simp[hj,reg]at hC;rw[hC]at h61;have hlp:=loop95 (reX (koX x 16 c) c) t C c hl;have hn:=posT_le c x.s.th;rw[show (reX (koX x 16 c) c).s.th=x.s.th from rfl]at hlp;generalize posT c x.s.th=n at *
 have h67:=run67 w (by omega);have h164:=fun v2=>run164 x.tv x.s.th.length n v2 x.s.th C rfl hn hl
 have h165:=fun v2=>run165 x.vp x.s.vs.length n v2 k x.s.vs w hw rfl (by omega) (by omega)
 obtain⟨w1,w2,w3⟩:=zca7 hw;have r1:=(zca7 (zwb7 (0,7) x.vp hw)).1;refine ce rfl ?_;simp[ht,t1,t2,t3,hk,hix,h163,h36,h61,hj,j1,j2,j3,j4,zqb7,zjd7,reg];simp only[zaa7];refine (hlp _ (by simp[hk,hj,enum,xM,xB,xS])).mono ?_;rintro⟨y,s'⟩ ⟨rfl,hq⟩;dsimp only at hq;have L1:=zke7 x.s.th n C hn;have L2:=zke7 x.s.vs n w (by omega);by_cases hnk:n≤k
 ·have hnk':(n:Int)≤k:=by omega
  simp[hq,enum,xM,xB,xS,hk,hix,hw,w1,w2,w3,r1,h67,h164,h165,hnk'];simp[spX,hCi,hnk,L1,L2]
 ·have hnk':¬(n:Int)≤k:=by omega
  simp[hq,enum,xM,xB,xS,hk,hix,hw,w1,w2,w3,r1,h67,h164,h165,hnk'];simp[spX,hCi,hnk,L1,L2,hk]
end Go.Am.E

set_option maxRecDepth 10000
set_option maxHeartbeats 4000000
namespace Go.Am.E
open Go.Proofs Go.Ex Go.Rc
attribute [-simp] splice
attribute [local simp] zma7
def rdyR (s:Ra) (t:Th) (i:In):Bool:=
 if i.op=15 then freM s.me i.o
 else if i.op=18 then (if t.ph=1 then s.me.sg.contains t.id else decide (t.ph=0)||freM s.me i.n)
 else if i.op=22 then (match fndT s.th (reg t i.b) with
  |some k=>match s.th[k]? with
   |some u=>decide (u.ss=2∨u.ss=3)
   |none=>false
  |none=>false)
 else true
theorem run79 (s:Ra) (hth:s.th.length<100000000000) (hme:Mb s.me) (t:Th) (i:In) (hr:rgs i):K 79 [.dat (RaD s),.dat (TD t),.dat (ID i)] []=some (.dat (.bool (rdyR s t i)),[]):=by
 have r2:=hr.2.1;refine ce rfl ?_;unfold rdyR;by_cases o15:i.op=15
 ·have h1:=run141 s.me hme i.o;simp[o15,h1]
 by_cases o18:i.op=18
 ·have h1:=run141 s.me hme i.n;have h2:=run42 s.me.sg t.id (by have:=hme.sg;omega);by_cases c1:t.ph=1
  ·generalize s.me.sg.contains t.id=R at *
   simp[o18,c1,h2]
  ·by_cases c2:t.ph=0<;>simp[o18,c1,c2,h1]
 by_cases o22:i.op=22
 ·rw[o22]at r2;obtain⟨j,hj,j1,j2,j3,j4⟩:=rg8 (r2 rfl);have h1:=run36 s.th (t.rg j) (by omega);unfold fndP at h1;cases c:fndT s.th (t.rg j) with
  |none=>
   simp only[c]at h1;simp[o22,hj,j1,j2,j3,j4,zqb7,zjd7,reg,h1,c]
  |some k=>
   simp only[c]at h1;obtain⟨u,t1,t2⟩:=fndT_get c;have t3:=(List.getElem?_eq_some_iff.1 t1).2;have k1:=(List.getElem?_eq_some_iff.1 t1).1;have k2:(k:Int)<s.th.length:=by omega
   by_cases c2:u.ss=2
   ·simp[o22,hj,j1,j2,j3,j4,zqb7,zjd7,reg,h1,c,t1,t3,k1,k2,c2]
   ·by_cases c3:u.ss=3<;>simp[o22,hj,j1,j2,j3,j4,zqb7,zjd7,reg,h1,c,t1,t3,k1,k2,c2,c3]
 simp[o15,o18,o22]
end Go.Am.E

set_option maxRecDepth 10000
set_option maxHeartbeats 8000000
namespace Go.Am.E
open Go.Proofs Go.Ex Go.Rc
attribute [-simp] splice
attribute [local simp] zma7
structure Rv (p:Pg) (s:Ra):Prop where
 hf:Fit p
 hp:chP p=0
 me:Mb s.me
 th:s.th.length<1000000
 tb:∀t∈s.th,Tb t
 ms:s.ms.length=p.vs.length
 mo:s.mo.length=p.vs.length
 ml:∀l∈s.ms,l.length<1000000
 ev:∀x,∀m∈gt2 s.ms x,0≤m.ev∧m.ev<s.ev.length
structure Pi (p:Pg) (i:In):Prop where
 hp:chP p=0
 ii:∃n,insE p n i=0
theorem Pi.reg {p:Pg} {i:In} (h:Pi p i):rgs i:=by
 obtain⟨n,hn⟩:=h.ii;exact (chI_ok (zpe7 hn).1).2.1
theorem Pi.va {p:Pg} {i:In} (h:Pi p i) (ho:i.op=8∨i.op=9∨i.op=10∨i.op=11∨i.op=12∨i.op=14):∃x:Nat,i.o=x∧x<p.vs.length:=by
 obtain⟨n,hn⟩:=h.ii;have h1:=(zpe7 hn).2.2.1;have e:nob p i.op=p.vs.length:=by unfold nob;rw[if_pos ho]
 rw[e]at h1;have:=h1 (by omega);exact⟨i.o.toNat,by omega,by omega⟩
theorem pen_pi {p:Pg} {t:Th} {i:In} (hp:chP p=0) (hb:Tb t) (h:penT p t=some i):Pi p i∧vis i.op=true∧t.ss=1∧okT p 32 t=true∧insT p t=some i:=by
 unfold penT at h;split at h
 ·rename_i c;obtain⟨hfr,j,hj,hv,-⟩:=okT_run c.2 c.1;rw[hj]at h;obtain rfl:=Option.some.inj h;have hr:=frmT_in hb hfr;exact⟨⟨hp,_,(insT_ok hp hr.i hj).1⟩,hv,c.1,c.2,hj⟩
 ·cases h
theorem penP_pen {p:Pg} (hp:chP p=0) (t:Th):penP p t=insP (penT p t):=by
 have h:stdE p 32=0:=by simp[stdE,hp]
 unfold penP penT;simp only[vldT,h,decide_true,Bool.true_and];split<;>rfl
theorem acc_op {n:Int} (h:acc n=true):n=8∨n=9∨n=10∨n=11∨n=12∨n=14:=by
 simp[acc]at h;omega
def pk (P:Nat→Bool) (n:Nat):List Int:=((List.range n).filter P).map fun k:Nat=>(k:Int)
theorem pk_s (P:Nat→Bool) (n:Nat):pk P (n+1)=pk P n++if P n=true then [(n:Int)] else []:=by
 unfold pk;rw[List.range_succ,List.filter_append,List.map_append];cases h:P n<;>simp[h]
theorem pk_len (P:Nat→Bool) (n:Nat):(pk P n).length≤n:=by
 have:=List.length_filter_le P (List.range n);simpa[pk]using this
def chs (p:Pg) (s:Ra) (t:Th) (v:List Int):List Int:=match penT p t with
 |none=>[]
 |some i=>if acc i.op=true then pk (posB p s t i (posM (gt2 s.ms i.o.toNat) ((v[i.o.toNat]?).getD 0))) ((gt2 s.ms i.o.toNat).length+2) else if rdyR s t i=true then [0] else []
abbrev E37 (n:Nat) (fl:Int) (o:List Int) (d:Nat):Env:=[(3,.ref ((4,0),0,0) 0),(4,.ref ((5,0),0,0) 0),(7,.ref ((8,0),0,0) 0),(8,.ref ((9,0),0,0) 0),(10,.dat (N fl)),(11,.rsl ((12,0),0,0) o.length 1 0 o.length),(55,.dat (N ((n:Int)+2))),(56,.dat (N d))]
abbrev X37 (p:Pg) (s:Ra) (t:Th) (i:In) (o:List Int):zsa7:=[((4,0),.plain (.box ((PDl p).map AVal.dat))),((5,0),.plain (.box ((RaDl s).map AVal.dat))),((8,0),.plain (.box (TDc t))),((9,0),.plain (.box (IDc i))),((12,0),.plain (.arr 1 o.length false (o.map N)))]
theorem run37 (p:Pg) (s:Ra) (h:Rv p s) (k:Nat) (t:Th) (v:List Int) (ht:s.th[k]?=some t) (hv:s.vs[k]?=some v) (hl:v.length=s.ms.length):K 37 [.dat (PD p),.dat (RaD s),.dat (N k)] []=some (.dat (Ns (chs p s t v)),[]):=by
 have hb:=h.tb t (List.mem_of_getElem? ht);have h43:=run43 p h.hf t hb;rw[penP_pen h.hp]at h43;obtain⟨t1,t2,t3⟩:=zca7 ht;have ixk:Ix k:=by have:=h.th;unfold Ix;omega
 refine ce rfl ?_;unfold chs;cases hpn:penT p t with
 |none=>
  rw[hpn]at h43;simp only[insP]at h43;simp[ht,t1,t2,t3,ixk,h43]
 |some i=>
  rw[hpn]at h43;simp only[insP]at h43;obtain⟨P,hvs,-⟩:=pen_pi h.hp hb hpn;have h78:=run78 i.op;dsimp only;cases hac:acc i.op
  ·rw[hac]at h78;have h79:=run79 s (by have:=h.th;omega) h.me t i P.reg;rw[if_neg (by decide)];cases hrd:rdyR s t i
   ·rw[hrd]at h79;simp[ht,t1,t2,t3,ixk,h43,h78,h79]
   ·rw[hrd]at h79;simp[ht,t1,t2,t3,ixk,h43,h78,h79]
  ·rw[hac]at h78;rw[if_pos rfl];have hop:=acc_op hac;obtain⟨x,hx,hxp⟩:=P.va hop;have hxm:x<s.ms.length:=by have:=h.ms;omega
   have hx1:=List.getElem?_eq_getElem hxm;have hg:=zxd7 hx1;obtain⟨x2,x3,x4⟩:=zca7 hx1;have hy1:=List.getElem?_eq_getElem (show x<v.length by omega);obtain⟨y2,y3,y4⟩:=zca7 hy1;obtain⟨w1,w2,w3⟩:=zca7 hv;have hln:=h.ml _ (List.getElem_mem hxm);have h80:=run80 s x _ hx1 (by omega) (v[x]);have h81:=fun k hk=>run81 p s t i (posM (gt2 s.ms x) (v[x])) k x hx hxm hxp (by rw[hg];exact hln) (h.ev x) hk P.reg hop
   rw[hx,Int.toNat_natCast,hy1,Option.getD_some];rw[hg]at h81 ⊢;generalize v[x]=e at *
   generalize s.ms[x]=l at *
   generalize posM l e=fl at *
   have hw:IntKind.wrap .i64 ((l.length:Int)+2)=(l.length+2:Nat):=by rw[wrap_i64 (by omega) (by omega)];rfl
   generalize posB p s t i fl=B at *
   simp[ht,t1,t2,t3,ixk,h43,h78,hv,w1,w2,w3,hx,hx1,x2,x3,x4,hy1,y2,y3,y4,h80,hw];simp only[zaa7];have hlen:=pk_len B
   refine (ev_for (live:=[3,4,7,8,10,11,55,56]) (drop:=[3,4,7,8,11]) (l.length+2) (fun d=>⟨E37 l.length fl (pk B d) d,X37 p s t i (pk B d)⟩)
    (fun d q=>q.1=.exit 0∧hd [11] [] q.2=some ⟨[(11,.rsl ((12,0),0,0) (pk B (l.length+2)).length 1 0 (pk B (l.length+2)).length)],X37 p s t i (pk B (l.length+2))⟩)
    (fun d st hd' hs=>?_) (fun st hs=>?_) (l.length+2) 0 _ (by omega) (by simp[pk])).mono ?_
   ·have g1:=h81 d (by omega);have g2:=pk_s B d;have g3:=hlen d;have g4:((pk B d).length+1)*9≤1099511627776:=by omega
    have g5:(d:Int)<(l.length:Int)+2:=by omega
    have g6:Ix d:=by unfold Ix;omega
    generalize B d=b at *
    cases b
    ·simp at g2;simp[hs,g1,g2,g5,g6]
    ·simp at g2;simp[hs,g1,g2,g4,g5,g6]
   ·simp[hs]
   ·rintro⟨y,st⟩ ⟨rfl,hq⟩;simp[hq]
end Go.Am.E

set_option maxRecDepth 10000
set_option maxHeartbeats 8000000
namespace Go.Am.E
open Go.Proofs Go.Ex Go.Rc
theorem srtT_get:∀{l:List Th} {i j:Nat} {t u:Th},srtT l=true→l[i]?=some t→l[j]?=some u→i<j→t.id<u.id
 |[],i,j,t,u,h,hi,hj,hij=>by simp at hi
 |[a],i,j,t,u,h,hi,hj,hij=>by
  cases j with
  |zero=>omega
  |succ j=>simp at hj
 |a::b::r,i,j,t,u,h,hi,hj,hij=>by
  simp only[srtT,Bool.and_eq_true,decide_eq_true_eq]at h;cases j with
  |zero=>omega
  |succ j=>
   rw[List.getElem?_cons_succ]at hj;cases i with
   |zero=>
    obtain rfl:=Option.some.inj hi;cases j with
    |zero=>obtain rfl:=Option.some.inj hj;exact h.1
    |succ j=>exact Int.lt_trans h.1 (srtT_get (i:=0) h.2 rfl hj (by omega))
   |succ i=>
    rw[List.getElem?_cons_succ]at hi;exact srtT_get h.2 hi hj (by omega)
theorem fndT_srt {l:List Th} {k:Nat} {t:Th} (hs:srtT l=true) (h:l[k]?=some t):fndT l t.id=some k:=by
 have key:∀(l:List Th) (k:Nat),(∀i u,i<k→l[i]?=some u→u.id≠t.id)→l[k]?=some t→fndT l t.id=some k:=by
  intro l
  induction l with
  |nil=>intro k _ h;simp at h
  |cons a r ih=>
   intro k hn h;cases k with
   |zero=>obtain rfl:=Option.some.inj h;simp[fndT]
   |succ k=>
    have h0:=hn 0 a (by omega) rfl;simp only[fndT,if_neg h0];rw[ih k (fun i u hi hu=>hn (i+1) u (by omega) (by simpa using hu)) (by simpa using h)];rfl
 exact key l k (fun i u hi hu=>by have:=srtT_get hs hu h hi;omega) h
theorem dep_lt {id:Int} (h:dep id≠none):0≤id∧id<10000000:=by
 unfold dep at h;split at h
 ·exact absurd rfl h
 ·rename_i c;cases hd:dpt 5 id with
  |none=>rw[hd]at h;exact absurd rfl h
  |some d=>
   have:=dep_bd hd;omega
theorem frmT_dep {p:Pg} {bd:Int} {t:Th} (h:frmT p bd t=true):dep t.id≠none:=by
 unfold frmT at h;split at h
 ·cases h
 ·rename_i d hd;rw[hd];simp
theorem chd_lt {t:Th} {c:Int} (h:chd t=some c):t.id<10000000∧c<100000000:=by
 unfold chd at h;split at h
 ·rename_i d hd;have:=dep_lt (id:=t.id) (by rw[hd];simp);split at h
  ·cases h
  ·have:=Option.some.inj h;omega
 ·cases h
end Go.Am.E
