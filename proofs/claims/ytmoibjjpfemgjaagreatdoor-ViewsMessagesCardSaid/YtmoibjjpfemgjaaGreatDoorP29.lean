/- Parts of the proofs of the statement, joined and made short: EW21 V4 EW22 EW23 EW24 EW25 EW26 EW27 EW28 EW29. -/
import Derived.Test.YtmoibjjpfemgjaaGreatDoorP28
import Derived.Test.YtmoibjjpfemgjaaGreatDoorP27
set_option linter.unusedVariables false
set_option linter.unusedSimpArgs false
set_option linter.unusedSectionVars false
set_option maxRecDepth 10000
set_option maxHeartbeats 4000000
namespace Go.Am.E
open Go.Proofs Go.Ex Go.Rc
attribute [-simp] splice
attribute [local simp] zma7
abbrev D17:List Dat:=[N 0,N 0,N 0,N 0,N 0,N 0,N 0,N 0,N 0,N 0,N 0,N 0,N 0,N 0,N 0,N 0,.sl []]
def newP (p:Pg) (bd id fn arg:Int):AVal:=if newE p bd id fn arg=0 then .tup [.dat (TD (newT p bd id fn arg)),.dat (N 0)] else .tup [.dat (.agg D17),.dat (N (newE p bd id fn arg))]
theorem zTh_l (id fn arg:Int):TDl (zTh id fn arg)=[N id,N fn,N 0,N arg,N 0,N 0,N 0,N 0,N 0,N 0,N 0,N 0,N 0,N 0,N 1,N 0,.sl []]:=rfl
theorem run61 (p:Pg) (hf:Fit p) (bd id fn arg:Int) (hid:id<100000000000000):K 61 [.dat (PD p),.dat (N bd),.dat (N id),.dat (N fn),.dat (N arg)] []=some (newP p bd id fn arg,[]):=by
 have h1:=run98 p bd hf;have h2:=run125 id hid;have h3:=run100 arg;have e4:=w32_okV arg;unfold newP newE;refine ce rfl ?_;unfold depZ at h2;rcases Classical.propComplete (stdE p bd=0) with c1|c1
 ·cases c2:dep id with
  |none=>
   simp only[c2]at h2;simp[h1,h2,c1]
  |some d=>
   simp only[c2]at h2;by_cases c3:fn<0
   ·simp[h1,h2,c1,c3,show ¬(0≤fn) by omega]
   ·by_cases c4:(p.fs.length:Int)≤fn
    ·simp[h1,h2,c1,c3,c4,show ¬(fn<(p.fs.length:Int)) by omega]
    ·have c5:0≤fn∧fn<(p.fs.length:Int):=by omega
     obtain⟨c5,c6⟩:=c5;cases c7:okV arg
     ·rw[c7]at e4;simp[h1,h2,h3,e4,c1,c3,c4,c5,c6]
     ·rw[c7]at e4;simp only[eq_self_iff_true]at e4
      have hp:chP p=0:=by
       have:stdE p bd=0:=by rw[c1];trivial
       unfold stdE at this;split at this
       ·exact absurd this ‹_›
       ·omega
      have hr:Rn p (zTh id fn arg):=⟨⟨c5,c6,Int.le_refl _⟩,⟨hid,by simp[zTh]⟩,by simp[zTh]⟩;have h4:=run102 p hp bd (zTh id fn arg) hr;simp only[TD,zTh_l]at h4;simp[h1,h2,h3,e4,c1,c3,c4,c5,c6,h4,newT]
 ·simp[h1,c1]
theorem frmT_in {p:Pg} {bd:Int} {t:Th} (hb:Tb t) (h:frmT p bd t=true):Rn p t:=by
 unfold frmT at h;split at h
 ·cases h
 ·simp only[Bool.and_eq_true,decide_eq_true_eq]at h;obtain⟨⟨⟨⟨⟨⟨⟨⟨h1,h2⟩,-⟩,-⟩,-⟩,-⟩,-⟩,-⟩,-⟩:=h;exact⟨⟨h1.1,h1.2,h2.1⟩,hb,h2.2⟩
theorem run99 (p:Pg) (hp:chP p=0) (bd:Int) (t:Th) (hb:Tb t):K 99 [.dat (PD p),.dat (N bd),.dat (TD t)] []=some (.dat (.bool (okT p bd t)),[]):=by
 have h1:=run170 p bd t hb;refine ce rfl ?_;unfold okT;cases c1:frmT p bd t
 ·rw[c1]at h1;simp[h1]
 ·rw[c1]at h1;have hr:=frmT_in hb c1;have h2:=run91 p t hr.i;cases c2:insT p t with
  |none=>
   rw[c2]at h2;simp only[insP]at h2;by_cases s1:t.ss=1
   ·by_cases f0:t.ft=0<;>simp[h1,h2,s1,f0]
   ·by_cases s4:t.ss=4
    ·by_cases f0:t.ft=0<;>simp[h1,h2,s1,s4,f0]
    ·by_cases s2:t.ss=2
     ·by_cases f0:t.ft=0<;>by_cases p0:t.ph=0<;>simp[h1,h2,s1,s4,s2,f0,p0]
     ·by_cases s3:t.ss=3
      ·by_cases p0:t.ph=0<;>simp[h1,h2,s1,s4,s2,s3,p0]
      ·simp[h1,h2,s1,s4,s2,s3]
  |some i=>
   rw[c2]at h2;simp only[insP]at h2;have h3:=run171 i.op;have h4:=run172 t i hb;obtain⟨g1,g2,g3⟩:=insT_ok hp hr.i c2;have g4:=(chI_ok (zde7 g1).1);by_cases s1:t.ss=1
   ·by_cases f0:t.ft=0
    ·cases v:vis i.op<;>rw[v]at h3
     ·simp[h1,h2,h3,s1,f0,v]
     ·rcases Classical.propComplete (obs t i=0) with o|o
      ·by_cases b0:t.st<bd<;>simp[h1,h2,h3,h4,s1,f0,v,o,b0]
      ·simp[h1,h2,h3,h4,s1,f0,v,o]
    ·simp[h1,h2,s1,f0]
   ·by_cases s4:t.ss=4
    ·by_cases f0:t.ft=0
     ·cases v:vis i.op<;>rw[v]at h3
      ·simp[h1,h2,h3,s1,s4,f0,v]
      ·rcases Classical.propComplete (obs t i=0) with o|o
       ·by_cases b0:1≤t.st<;>simp[h1,h2,h3,h4,s1,s4,f0,v,o,b0]
       ·simp[h1,h2,h3,h4,s1,s4,f0,v,o]
     ·simp[h1,h2,s1,s4,f0]
    ·by_cases s2:t.ss=2
     ·by_cases f0:t.ft=0<;>by_cases p0:t.ph=0<;>by_cases o7:i.op=7<;>simp[h1,h2,s1,s4,s2,f0,p0,o7]
     ·by_cases s3:t.ss=3
      ·by_cases p0:t.ph=0
       ·by_cases f26:t.ft=26
        ·by_cases o6:i.op=6
         ·have r2:=g4.2.1.2.1;rw[o6]at r2;obtain⟨j,hj,j1,j2,j3,j4⟩:=rg8 (r2 rfl);by_cases z:t.rg j=0<;>simp[h1,h2,s1,s4,s2,s3,p0,f26,o6,hj,j1,j2,j3,j4,zqb7,zjd7,reg,z]
         ·simp[h1,h2,s1,s4,s2,s3,p0,f26,o6]
        ·by_cases f29:t.ft=29
         ·cases v:vis i.op<;>rw[v]at h3<;>simp[h1,h2,h3,s1,s4,s2,s3,p0,f26,f29,v]
         ·by_cases f0:t.ft=0
          ·simp[h1,h2,s1,s4,s2,s3,p0,f26,f29,f0]
          ·rcases Classical.propComplete (obs t i=t.ft) with o|o
           ·simp[h1,h2,h4,s1,s4,s2,s3,p0,f26,f29,f0,o]
           ·simp[h1,h2,h4,s1,s4,s2,s3,p0,f26,f29,f0,o]
       ·simp[h1,h2,s1,s4,s2,s3,p0]
      ·simp[h1,h2,s1,s4,s2,s3]
def vldT (p:Pg) (bd:Int) (t:Th):Bool:=decide (stdE p bd=0)&&okT p bd t
theorem zpd7 {p:Pg} {bd:Int} (h:stdE p bd=0):chP p=0∧1≤bd∧bd≤32:=by
 unfold stdE at h;split at h
 ·exact absurd h ‹_›
 ·split at h
  ·cases h
  ·omega
theorem run73 (p:Pg) (hf:Fit p) (bd:Int) (t:Th) (hb:Tb t):K 73 [.dat (PD p),.dat (N bd),.dat (TD t)] []=some (.dat (.bool (vldT p bd t)),[]):=by
 have h1:=run98 p bd hf;refine ce rfl ?_;unfold vldT;rcases Classical.propComplete (stdE p bd=0) with c1|c1
 ·have h2:=run99 p (zpd7 (by rw[c1];trivial:stdE p bd=0)).1 bd t hb;simp[h1,h2,c1]
 ·simp[h1,c1]
def penP (p:Pg) (t:Th):AVal:=if t.ss=1∧vldT p 32 t=true then insP (insT p t) else insP none
theorem run43 (p:Pg) (hf:Fit p) (t:Th) (hb:Tb t):K 43 [.dat (PD p),.dat (TD t)] []=some (penP p t,[]):=by
 have h1:=run73 p hf 32 t hb;refine ce rfl ?_;unfold penP;by_cases s1:t.ss=1
 ·cases v:vldT p 32 t<;>rw[v]at h1
  ·simp[h1,s1,insP]
  ·have hr:Rn p t:=frmT_in hb (by
    simp only[vldT,okT,Bool.and_eq_true]at v;exact v.2.1)
   have h2:=run91 p t hr.i;cases c2:insT p t<;>rw[c2]at h2<;>simp only[insP]at h2<;>simp[h1,s1,h2,insP]
 ·simp[s1,insP]
end Go.Am.E

set_option maxRecDepth 10000
set_option maxHeartbeats 8000000
namespace Go.Am.E
open Go.Proofs Go.Ex Go.Rc
attribute [-simp] splice
attribute [local simp] zma7
def posB (p:Pg) (s:Ra) (t:Th) (i:In) (fl:Int) (k:Nat):Bool:=
 if i.op=8 then decide (fl≤k)&&decide (k≤(gt2 s.ms i.o.toNat).length)
 else if i.op=14 then decide (fl≤k)&&(decide (k≤(gt2 s.ms i.o.toNat).length)&&(decide (appE i.f=0)&&decide (Go.Ex.appF i.f (atV p s i.o.toNat k) (reg t i.b)≠0)))
 else if i.op=9 then decide (fl<k)&&(decide (k≤(gt2 s.ms i.o.toNat).length+1)&&!updV s i.o.toNat k)
 else if i.op=12 then decide (fl≤k)&&(decide (k≤(gt2 s.ms i.o.toNat).length)&&(decide (atV p s i.o.toNat k≠reg t i.b)||!updV s i.o.toNat (k+1)))
 else decide (fl≤k)&&(decide (k≤(gt2 s.ms i.o.toNat).length)&&!updV s i.o.toNat (k+1))
theorem run81 (p:Pg) (s:Ra) (t:Th) (i:In) (fl:Int) (k x:Nat) (ho:i.o=x) (hx:x<s.ms.length) (hv:x<p.vs.length) (hl:(gt2 s.ms x).length<1000000) (hm:∀m∈gt2 s.ms x,0≤m.ev∧m.ev<s.ev.length) (hk:k<100000000)
  (hr:rgs i) (hop:i.op=8∨i.op=9∨i.op=10∨i.op=11∨i.op=12∨i.op=14):K 81 [.dat (PD p),.dat (RaD s),.dat (TD t),.dat (ID i),.dat (N fl),.dat (N k)] []=some (.dat (.bool (posB p s t i fl k)),[]):=ce rfl (by
 have hx1:=List.getElem?_eq_getElem hx;have hg:=zwd7 hx1;obtain⟨x2,x3,x4⟩:=zca7 hx1;have ixk:Ix k:=by unfold Ix;omega
 have a1:=fun (h:k≠0→k-1<(s.ms[x]).length)=>run143 p s x k (fun _=>hv) (fun h0=>⟨hx,by rw[hg];exact h h0⟩) (by omega)
 have a2:=run144 s x k hx (by omega) hm (by omega);have a3:=run144 s x (k+1) hx (by omega) hm (by omega);have ixn:Ix (gt2 s.ms x).length:=by unfold Ix;omega
 rw[hg]at ixn;unfold posB;rw[ho,Int.toNat_natCast,hg];obtain⟨r1,r2,r3⟩:=hr;generalize atV p s x k=v at *
 generalize updV s x k=u at *
 generalize updV s x (k+1)=u' at *
 generalize s.ms[x]=l at *
 rw[show ((k+1:Nat):Int)=(k:Int)+1 by omega]at a3;by_cases c1:fl≤k
 ·by_cases c2:k≤l.length
  ·have c2':(k:Int)≤l.length:=by omega
   have c3:¬(l.length:Int)<k:=by omega
   have c4:¬(k:Int)<fl:=by omega
   have c5:(k:Int)≤(l.length:Int)+1:=by omega
   have c6:k≤l.length+1:=by omega
   have a1:=a1 (fun h0=>by omega);rcases hop with o|o|o|o|o|o
   ·simp[o,ho,hx1,x2,x3,x4,c1,c2,c2']
   ·by_cases c7:fl<k
    ·simp[o,ho,hx1,x2,x3,x4,c1,c2,c2',c5,c6,c7,a2,ixn]
    ·simp[o,ho,hx1,x2,x3,x4,c1,c2,c2',c7,ixn]
   ·simp[o,ho,hx1,x2,x3,x4,c1,c2,c2',a3,ixk]
   ·simp[o,ho,hx1,x2,x3,x4,c1,c2,c2',a3,ixk]
   ·rw[o]at r2;obtain⟨j,hj,j1,j2,j3,j4⟩:=rg8 (r2 rfl);by_cases c7:v=t.rg j
    ·simp[o,ho,hx1,x2,x3,x4,c1,c2,c2',a1,a3,ixk,c7,hj,j1,j2,j3,j4,zqb7,zjd7,reg,YID,pairK,zyc7,chgOf,slim,sameAt,TObj.same,Obj.same,sameAll,AVal.same,Dat.eqv,meets,updT]
    ·simp[o,ho,hx1,x2,x3,x4,c1,c2,c2',a1,a3,ixk,c7,hj,j1,j2,j3,j4,zqb7,zjd7,reg,YID,pairK,zyc7,chgOf,slim,sameAt,TObj.same,Obj.same,sameAll,AVal.same,Dat.eqv,meets,updT]
   ·rw[o]at r2;obtain⟨j,hj,j1,j2,j3,j4⟩:=rg8 (r2 rfl);have h142:=run142 i.f v (t.rg j);by_cases c7:appE i.f=0
    ·by_cases c8:Go.Ex.appF i.f v (t.rg j)=0
     ·simp[o,ho,hx1,x2,x3,x4,c1,c2,c2',c3,c4,a1,h142,c7,c8,hj,j1,j2,j3,j4,zqb7,zjd7,reg,YID,pairK,zyc7,chgOf,slim,sameAt,TObj.same,Obj.same,sameAll,AVal.same,Dat.eqv,meets,updT]
     ·simp[o,ho,hx1,x2,x3,x4,c1,c2,c2',c3,c4,a1,h142,c7,c8,hj,j1,j2,j3,j4,zqb7,zjd7,reg,YID,pairK,zyc7,chgOf,slim,sameAt,TObj.same,Obj.same,sameAll,AVal.same,Dat.eqv,meets,updT]
    ·simp[o,ho,hx1,x2,x3,x4,c1,c2,c2',c3,c4,a1,h142,c7,hj,j1,j2,j3,j4,zqb7,zjd7,reg,YID,pairK,zyc7,chgOf,slim,sameAt,TObj.same,Obj.same,sameAll,AVal.same,Dat.eqv,meets,updT]
  ·have c2':¬(k:Int)≤l.length:=by omega
   have c3:(l.length:Int)<k:=by omega
   have c4:¬(k:Int)<fl:=by omega
   rcases hop with o|o|o|o|o|o
   ·simp[o,ho,hx1,x2,x3,x4,c1,c2,c2']
   ·by_cases c7:fl<k
    ·by_cases c6:k≤l.length+1
     ·have c5:(k:Int)≤(l.length:Int)+1:=by omega
      simp[o,ho,hx1,x2,x3,x4,c1,c2,c2',c5,c6,c7,a2,ixn]
     ·have c5:¬(k:Int)≤(l.length:Int)+1:=by omega
      simp[o,ho,hx1,x2,x3,x4,c1,c2,c2',c5,c6,c7,ixn]
    ·simp[o,ho,hx1,x2,x3,x4,c1,c2,c2',c7,ixn]
   ·simp[o,ho,hx1,x2,x3,x4,c1,c2,c2']
   ·simp[o,ho,hx1,x2,x3,x4,c1,c2,c2']
   ·simp[o,ho,hx1,x2,x3,x4,c1,c2,c2',YID,pairK,zyc7,chgOf,slim,sameAt,TObj.same,Obj.same,sameAll,AVal.same,Dat.eqv,meets,updT]
   ·simp[o,ho,hx1,x2,x3,x4,c1,c2,c2',c3,c4]
 ·have c1':¬fl<k:=by omega
  have c4:(k:Int)<fl:=by omega
  rcases hop with o|o|o|o|o|o
  ·simp[o,ho,hx1,x2,x3,x4,c1]
  ·simp[o,ho,hx1,x2,x3,x4,c1,c1']
  ·simp[o,ho,hx1,x2,x3,x4,c1]
  ·simp[o,ho,hx1,x2,x3,x4,c1]
  ·simp[o,ho,hx1,x2,x3,x4,c1,YID,pairK,zyc7,chgOf,slim,sameAt,TObj.same,Obj.same,sameAll,AVal.same,Dat.eqv,meets,updT]
  ·simp[o,ho,hx1,x2,x3,x4,c1,c4])
end Go.Am.E

set_option maxRecDepth 10000
set_option maxHeartbeats 4000000
namespace Go.Am.E
open Go.Proofs Go.Ex Go.Rc
def dd:Int→List Int→List Int
 |_,[]=>[]
 |p,b::r=>if b=p then dd b r else b::dd b r
def cmpL:List Int→List Int
 |[]=>[]
 |a::r=>a::dd a r
abbrev aI (v:Nat) (A:List Int):TObj:=.plain (.arr 1 v false (A.map N))
abbrev rI (v n:Nat):AVal:=.rsl ((0,0),0,0) v 1 0 n
def cmpQ (l:List Int) (v:Nat) (q:AEx×St):Prop:=q.1=.exit 2∧∃A k,A.length=l.length∧cmpL l=A.take k∧k≤l.length∧hd [0,3] [] q.2=some ⟨[(0,rI v l.length),(3,.dat (N (k:Nat)))],[((0,0),aI v A)]⟩
theorem cmp_inner (l:List Int) (hl:l.length<1000000000000) (v j:Nat) (hj:j<l.length):∀(m k2 k:Nat) (A:List Int) (s:St),k2+m=l.length-j→1≤k2→1≤k→k+1≤j+k2→A.length=l.length→A.drop (j+k2-1)=l.drop (j+k2-1)→
  (∀p,l[j+k2-1]?=some p→cmpL l=A.take k++dd p (l.drop (j+k2)))→
  hd [0,3,4,5] [] s=some ⟨[(0,rI v l.length),(3,.dat (N k)),(4,.rsl ((0,0),0,0) v 1 j (l.length-j)),(5,.dat (N k2))],[((0,0),aI v A)]⟩→
  Ev (zga7 (exec K l237_0) s) (cmpQ l v)
 |0,k2,k,A,s,hm,h1,hk,hk2,hA,hd1,hc,hs=>by
  have e:k2=l.length-j:=by omega
  obtain⟨p,p1,p2⟩:=zad7 l (i:=j+k2-1) (by omega);have hc:=hc p p1;rw[drop_none (by omega),dd,List.append_nil]at hc;have h2:¬((k2:Int)<((l.length-j:Nat):Int)):=by omega
  apply zya7;simp[hs,h2,cmpQ];exact⟨A,hA,k,hc,by omega,rfl,rfl⟩
 |m+1,k2,k,A,s,hm,h1,hk,hk2,hA,hd1,hc,hs=>by
  obtain⟨p,p1,p2⟩:=zad7 l (i:=j+k2-1) (by omega);obtain⟨b,b1,b2⟩:=zad7 l (i:=j+k2) (by omega);have hc:=hc p p1;rw[zwb7 b1,dd]at hc;have h2:((k2:Int)<((l.length-j:Nat):Int)):=by omega
  have ix:Ix k2:=by unfold Ix;omega
  have ixk:Ix k:=by unfold Ix;omega
  have a1:A[j+k2]?=some b:=by
   have:=congrArg (fun L=>L[1]?) hd1;simp only[List.getElem?_drop]at this;rw[show j+k2-1+1=j+k2 by omega]at this;rw[this,b1]
  have a0:A[j+k2-1]?=some p:=by
   have:=congrArg (fun L=>L[0]?) hd1;simp only[List.getElem?_drop,Nat.add_zero]at this;rw[this,p1]
  have w:IntKind.wrap .i64 ((k2:Int)-1)=((k2-1:Nat):Int):=by
   rw[wrap_i64 (by omega) (by omega)];omega
  have h3:((k2-1:Nat):Int)<((l.length-j:Nat):Int):=by omega
  have e1:j+(k2-1)=j+k2-1:=by omega
  apply zya7;by_cases c:b=p
  ·subst c;rw[if_pos rfl]at hc;simp[hs,h2,w,h3,e1,ix,a0,a1];refine cmp_inner l hl v j hj m (k2+1) k A _ (by omega) (by omega) hk (by omega) hA ?_ ?_ (by simp)
   ·rw[show j+(k2+1)-1=(j+k2-1)+1 by omega,←List.drop_drop,←List.drop_drop,hd1]
   ·rw[show j+(k2+1)-1=j+k2 by omega];intro p hp;rw[b1]at hp;obtain rfl:=Option.some.inj hp;exact hc
  ·rw[if_neg c]at hc;have k1:(k:Int)<l.length:=by omega
   have k2':k<A.length:=by omega
   obtain⟨x,x1,x2⟩:=zad7 A k2';have c':¬p=b:=fun h=>c h.symm
   simp[hs,h2,w,h3,e1,ix,ixk,a0,a1,c,c',k1,k2',hA,x1,x2];refine cmp_inner l hl v j hj m (k2+1) (k+1) (A.set k b) _ (by omega) (by omega) (by omega) (by omega) (by simp[hA]) ?_ ?_ (by simp)
   ·rw[show j+(k2+1)-1=(j+k2-1)+1 by omega,List.drop_set_of_lt (by omega),←List.drop_drop,←List.drop_drop,hd1]
   ·rw[show j+(k2+1)-1=j+k2 by omega];intro p hp;rw[b1]at hp;obtain rfl:=Option.some.inj hp;rw[hc,List.take_succ_eq_append_getElem (by simpa using k2')];simp[show j+(k2+1)=j+k2+1 by omega,List.take_set_of_le]
def owned (r:Option (AVal×List TObj)) (l:List Int):Prop:=∃(v:Nat) (A:List Int),r=some (rI v l.length,[aI v A])∧A.take l.length=l∧l.length≤A.length∧A.length<1000000000000
def cmpP (l:List Int) (v:Nat) (q:AEx×St):Prop:=(q.1=.exit 0∧cmpL l=l∧hd [0] [] q.2=some ⟨[(0,rI v l.length)],[((0,0),aI v l)]⟩)∨(q.1=.ret∧owned (endK [.t 2] true 1 q) (cmpL l))
theorem cmp_loop (l:List Int) (hl:l.length<1000000000000) (v:Nat):∀(m i:Nat) (p:Int) (s:St),i+1+m=l.length→l[i]?=some p→cmpL l=l.take (i+1)++dd p (l.drop (i+1))→
  hd [0,3] [] s=some ⟨[(0,rI v l.length),(3,.dat (N (i+1:Nat)))],[((0,0),aI v l)]⟩→Ev (zga7 (exec K l237_1) s) (cmpP l v)
 |0,i,p,s,hm,hp,hc,hs=>by
  have h2:¬((i:Int)+1<l.length):=by omega
  rw[drop_none (by omega),dd,List.append_nil,List.take_of_length_le (by omega)]at hc;apply zya7;simp[hs,h2,cmpP,hc]
 |m+1,i,p,s,hm,hp,hc,hs=>by
  have h2:(i:Int)+1<l.length:=by omega
  have h3:(i:Int)<l.length:=by omega
  obtain⟨b,b1,b2⟩:=zad7 l (i:=i+1) (by omega);have p2:=(List.getElem?_eq_some_iff.1 hp).2;have ix:Ix (i+1):=by unfold Ix;omega
  have wS:IntKind.wrap .i64 ((i:Int)+1+1)=i+1+1:=wrap_i64 (by omega) (by omega);have w:IntKind.wrap .i64 (i:Int)=i:=wrap_i64 (by omega) (by omega);rw[zwb7 b1,dd]at hc;apply zya7;by_cases c:b=p
  ·subst c;rw[if_pos rfl]at hc;have h4:(i:Int)+1≤l.length:=by omega
   have e2:((l.length:Int)-(i+1)).toNat=l.length-(i+1):=by omega
   simp[hs,h2,h3,w,b1,hp,h4,e2];simp only[zaa7];refine (cmp_inner l hl v (i+1) (by omega) (l.length-(i+1)-1) 1 (i+1) l _ (by omega) (by omega) (by omega) (by omega) rfl rfl ?_ (by simp[hs,h2,h3,w,b1,hp,h4,e2])).mono ?_
   ·rw[show i+1+1-1=i+1 by omega];intro p hp2;rw[b1]at hp2;obtain rfl:=Option.some.inj hp2;exact hc
   ·rintro⟨y,s⟩ ⟨rfl,A,k,g1,g2,g3,hq⟩;have k1:(k:Int)≤l.length:=by omega
    have k2:k≤A.length:=by omega
    have e3:((l.length:Int)-k).toNat=l.length-k:=by omega
    have e4:k+(l.length-k)=l.length:=by omega
    have e5:(k+(l.length-k)≤A.length)=True:=by simp;omega
    simp[hq,k1,e3,e4,g1,cmpP];have e6:(cmpL l).length=k:=by rw[g2,List.length_take];omega
    refine⟨v,A.take k++List.replicate (l.length-k) 0,?_,?_,?_,?_⟩
    ·rw[e6];simp;omega
    ·rw[e6,g2,List.take_append_of_le_length (by simp;omega),List.take_take,Nat.min_self]
    ·simp;omega
    ·simp;omega
  ·rw[if_neg c]at hc;simp[hs,h2,h3,w,wS,b1,hp,c];refine cmp_loop l hl v m (i+1) b _ (by omega) b1 ?_ (by simp);rw[hc,zpe7 b1];simp
end Go.Am.E

set_option maxRecDepth 10000
set_option maxHeartbeats 4000000
namespace Go.Am
theorem insS_perm (x:Int):∀l:List Int,(insS x l).Perm (x::l)
 |[]=>List.Perm.refl _
 |y::r=>by
  simp only[insS];split
  ·exact List.Perm.refl _
  ·exact ((insS_perm x r).cons y).trans (List.Perm.swap x y r)
theorem zqd7:∀l:List Int,(sortS l).Perm l
 |[]=>List.Perm.refl _
 |x::r=>(insS_perm x _).trans ((zqd7 r).cons x)
theorem insS_pw (x:Int):∀l:List Int,l.Pairwise (·≤·)→(insS x l).Pairwise (·≤·)
 |[],_=>by simp[insS]
 |y::r,h=>by
  have h':=List.pairwise_cons.1 h;simp only[insS];split
  ·rename_i hxy;refine List.pairwise_cons.2 ⟨fun z hz=>?_,h⟩;rcases List.mem_cons.1 hz with rfl|hz
   ·exact hxy
   ·have:=h'.1 z hz;omega
  ·rename_i hxy;refine List.pairwise_cons.2 ⟨fun z hz=>?_,insS_pw x r h'.2⟩;rcases List.mem_cons.1 ((insS_perm x r).mem_iff.1 hz) with rfl|hz
   ·omega
   ·exact h'.1 z hz
theorem sortS_pw:∀l:List Int,(sortS l).Pairwise (·≤·)
 |[]=>List.Pairwise.nil
 |x::r=>insS_pw x _ (sortS_pw r)
theorem pw_uniq:∀{a b:List Int},a.Pairwise (·≤·)→b.Pairwise (·≤·)→a.Perm b→a=b
 |[],b,_,_,h=>(List.nil_perm.1 h).symm
 |x::r,[],_,_,h=>by cases List.perm_nil.1 h
 |x::r,y::s,ha,hb,h=>by
  have ha':=List.pairwise_cons.1 ha;have hb':=List.pairwise_cons.1 hb
  have h1:x≤y:=by
   rcases List.mem_cons.1 (h.mem_iff.2 (List.mem_cons_self ..)) with e|e
   ·omega
   ·exact ha'.1 _ e
  have h2:y≤x:=by
   rcases List.mem_cons.1 (h.mem_iff.1 (List.mem_cons_self ..)) with e|e
   ·omega
   ·exact hb'.1 _ e
  have e:x=y:=by omega
  subst e;rw[pw_uniq ha'.2 hb'.2 (List.perm_cons x |>.1 h)]
theorem intsD_map:∀l:List Int,intsD (l.map fun n=>Dat.int .i64 n)=some l
 |[]=>rfl
 |x::r=>by simp only[List.map_cons,intsD,intsD_map r,Option.map_some]
theorem zjf7 [Glob] {tbl:Tab} {f:FuncId} {args:List AVal} {os:List TObj} {r:AVal×List TObj} (hf:tbl.fn f=none) (h:tbl.law f args os=some r) (hne:f≠YID:=by decide):callT tbl f args os=some r:=
 callT_iff.2 ⟨1,by rw[Kn];simp only[if_neg hne,hf];exact h⟩
end Go.Am
namespace Go.Am.E
open Go.Proofs Go.Ex Go.Rc
theorem incr_pw:∀{l:List Int},incr l=true→l.Pairwise (·<·)
 |[],_=>List.Pairwise.nil
 |[a],_=>by simp
 |a::b::r,h=>by
  simp only[incr,Bool.and_eq_true,decide_eq_true_eq]at h;have ih:=incr_pw h.2;have ih':=List.pairwise_cons.1 ih;refine List.pairwise_cons.2 ⟨fun z hz=>?_,ih⟩;rcases List.mem_cons.1 hz with rfl|hz
  ·exact h.1
  ·have:=ih'.1 z hz;omega
theorem pw_le {l:List Int} (h:l.Pairwise (·<·)):l.Pairwise (·≤·):=h.imp fun h=>by omega
theorem sortS_id {l:List Int} (h:l.Pairwise (·≤·)):sortS l=l:=pw_uniq (sortS_pw l) h (zqd7 l)
theorem dd_id:∀{a:Int} {l:List Int},(a::l).Pairwise (·<·)→dd a l=l
 |a,[],_=>rfl
 |a,b::r,h=>by
  have h':=List.pairwise_cons.1 h;have:a<b:=h'.1 b (by simp);rw[dd,if_neg (by omega),dd_id h'.2]
theorem cmpL_id {l:List Int} (h:l.Pairwise (·<·)):cmpL l=l:=by
 cases l with
 |nil=>rfl
 |cons a r=>rw[cmpL,dd_id h]
theorem sortS_app {l:List Int} (n:Int) (h:l.Pairwise (·≤·)):sortS (l++[n])=insS n l:=
 pw_uniq (sortS_pw _) (insS_pw n l h) ((zqd7 _).trans (List.perm_append_comm.trans (insS_perm n l).symm))
theorem cmpL_ins (n:Int):∀{l:List Int},l.Pairwise (·<·)→cmpL (insS n l)=ins n l
 |[],_=>rfl
 |a::r,h=>by
  have h':=List.pairwise_cons.1 h;simp only[insS,ins];by_cases c1:n<a
  ·rw[if_pos (by omega),if_pos c1,cmpL,dd,if_neg (by omega),dd_id h]
  ·by_cases c2:n=a
   ·subst c2;rw[if_pos (by omega),if_neg c1,if_pos rfl,cmpL,dd,if_pos rfl,dd_id h]
   ·rw[if_neg (by omega),if_neg c1,if_neg c2,cmpL];have ih:=cmpL_ins n h'.2
    congr 1
    rw[←ih];cases hi:insS n r with
    |nil=>rfl
    |cons b m=>
     have hb:b∈insS n r:=by rw[hi];simp
     have:b≠a:=by
      rcases List.mem_cons.1 ((insS_perm n r).mem_iff.1 hb) with rfl|hb
      ·exact c2
      ·have:=h'.1 b hb;omega
     rw[dd,if_neg this,cmpL]
theorem ins_pw (n:Int):∀{l:List Int},l.Pairwise (·<·)→(ins n l).Pairwise (·<·)∧(∀x,x∈ins n l↔x=n∨x∈l)
 |[],_=>⟨by simp[ins],by simp[ins]⟩
 |a::r,h=>by
  have h':=List.pairwise_cons.1 h;obtain⟨ih,ih2⟩:=ins_pw n h'.2;simp only[ins];by_cases c1:n<a
  ·rw[if_pos c1];refine⟨List.pairwise_cons.2 ⟨fun z hz=>?_,h⟩,by simp⟩;rcases List.mem_cons.1 hz with rfl|hz
   ·exact c1
   ·have:=h'.1 z hz;omega
  ·rw[if_neg c1];by_cases c2:n=a
   ·rw[if_pos c2];exact⟨h,by simp[c2]⟩
   ·rw[if_neg c2];refine⟨List.pairwise_cons.2 ⟨fun z hz=>?_,ih⟩,fun x=>?_⟩
    ·rcases (ih2 z).1 hz with rfl|hz
     ·omega
     ·exact h'.1 z hz
    ·simp only[List.mem_cons,ih2];constructor<;>(intro h;rcases h with h|h|h<;>simp[h])
theorem run236 (v:Nat) (A:List Int) (hl:A.length<10000000000):K 236 [rI v A.length] [aI v A]=some (.tup [],[aI v (sortS A)]):=by
 refine zjf7 rfl ?_;simp only[tblE,lawE,memoL,insV,sortE,if_true,List.length_map,intsD_map,and_self,hl,true_and]
theorem run237 (v:Nat) (l:List Int) (hl:l.length<1000000000000):owned (K 237 [rI v l.length] [aI v l]) (cmpL l):=by
 have key:Ev (zed7 K fn237 [rI v l.length] [aI v l]) fun r=>owned (some r) (cmpL l):=by
  match l with
  |[]=>
   simp[cmpL];exact⟨v,[],rfl,rfl,by simp,by simp⟩
  |[a]=>
   simp[cmpL];exact⟨v,[a],rfl,rfl,by simp[dd],by simp⟩
  |a::b::r=>
   have h2:¬((r.length:Int)+1+1<2):=by omega
   generalize hL:a::b::r=L at *
   have hlen:L.length=r.length+2:=by rw[←hL];rfl
   have h3:¬((L.length:Int)<2):=by omega
   simp[h3];simp only[zaa7];refine (cmp_loop L hl v (r.length+1) 0 a _ (by omega) (by rw[←hL];rfl) (by rw[←hL];rfl) (by simp[h3])).mono ?_;rintro⟨y,s⟩ hq;rcases hq with⟨rfl,hc,hq⟩|⟨rfl,hq⟩
   ·simp[hq];exact⟨v,L,by rw[hc],by rw[hc];simp,by rw[hc];simp,hl⟩
   ·obtain⟨w,A,h1,h4⟩:=hq;simp[h1];exact⟨w,A,rfl,h4⟩
 obtain⟨r,h1,v',A,h2,h3⟩:=key;injection h2 with h2;subst h2;exact⟨v',A,ce (fn:=fn237) rfl ⟨_,h1,rfl⟩,h3⟩
theorem run177 (l:List Int) (hl:l.length<10000000000):owned (K 177 [.dat (Ns l)] []) (cmpL (sortS l)):=by
 have h1:=run174 l hl;have h2:=run236 (cv l) l hl;have hs:(sortS l).length=l.length:=(zqd7 l).length_eq;obtain⟨v,A,h3,h4,h5,h6⟩:=run237 (cv l) (sortS l) (by omega);rw[hs]at h3;refine⟨v,A,ce rfl ?_,h4,h5,h6⟩;simp[h1,h2,h3]
end Go.Am.E

set_option maxRecDepth 10000
set_option maxHeartbeats 4000000
namespace Go.Am.E
open Go.Proofs Go.Ex Go.Rc
theorem run104 (l:List Int) (n:Int) (hl:l.length<1000000000) (hi:incr l=true):owned (K 104 [.dat (Ns l),.dat (N n)] []) (ins n l):=by
 have h1:=run174 l (by omega);have h2:=run177 (l++[n]) (by simp;omega);rw[sortS_app n (pw_le (incr_pw hi)),cmpL_ins n (incr_pw hi)]at h2;obtain⟨v,A,h3,h4,h5,h6⟩:=h2;have h7:(l.length+1)*9≤1099511627776:=by omega
 simp only[Ns,List.map_append,List.map_cons,List.map_nil]at h3;refine⟨v,A,ce rfl ?_,h4,h5,h6⟩;simp[h1,h3,h7]
theorem sorted_incr {l:List Int} (h:incr l=true):cmpL (sortS l)=l:=by rw[sortS_id (pw_le (incr_pw h)),cmpL_id (incr_pw h)]
def flt (o:List Int) (b:Bool) (l:List Int):List Int:=l.filter fun x=>o.contains x==b
theorem run178 (l o:List Int) (b:Bool) (hl:l.length<1000000000) (ho:o.length<1000000000) (hi:incr l=true):K 178 [.dat (Ns l),.dat (Ns o),.dat (.bool b)] []=some (.dat (Ns (flt o b l)),[]):=by
 have h2:=run177 l (by omega);rw[sorted_incr hi]at h2;obtain⟨v,A,h3,h4,h5,h6⟩:=h2;refine ce rfl ?_;have h7:A.length*9≤109951162777600:=by omega
 simp[h3];simp only[zaa7]
 refine (zeb7 (live:=[1,2,7,11,12,13]) (drop:=[1,7,11]) l (by omega) (fun k=>⟨[(1,.dat (Ns o)),(2,.dat (.bool b)),(7,.rsl ((8,0),0,0) (flt o b (l.take k)).length 1 0 (flt o b (l.take k)).length),(11,.rsl ((12,0),0,0) v 1 0 l.length),(12,.dat (N l.length)),(13,.dat (N k))],
   [((8,0),.plain (.arr 1 (flt o b (l.take k)).length false ((flt o b (l.take k)).map N))),((12,0),.plain (.arr 1 v false (A.map N)))]⟩)
  (fun k q=>q.1=.exit 0∧∃os,hd [7] [] q.2=some ⟨[(7,.rsl ((8,0),0,0) (flt o b l).length 1 0 (flt o b l).length)],((8,0),.plain (.arr 1 (flt o b l).length false ((flt o b l).map N)))::os⟩)
  (fun i y s g1 g2 g3 ix hs=>?_) (fun s hs=>?_) _ (by simp[h3,flt])).mono ?_
 ·have h8:=run42 o y (by omega)
  have a1:A[i]?=some y:=by
   have:=congrArg (fun L=>L[i]?) h4;simp only[List.getElem?_take]at this;rw[if_pos (by omega),g1]at this;exact this
  have e:=zpe7 g1
  have e2:flt o b (l.take (i+1))=flt o b (l.take i)++(if decide (y∈o)=b then [y] else []):=by
   rw[e];simp only[flt,List.filter_append]
   congr 1
   by_cases c:decide (y∈o)=b<;>simp[c]
  have hlen:(flt o b (l.take i)).length≤l.length:=Nat.le_trans (List.length_filter_le ..) (by simp;omega);have h9:((flt o b (l.take i)).length+1)*9≤1099511627776:=by omega
  by_cases c:decide (y∈o)=b;rotate_left
  ·simp only[c,if_false,List.append_nil]at e2;simp[hs,g3,h8,c,e2,ix,a1]
  ·simp only[c,if_true]at e2;simp[hs,g3,h8,c,e2,ix,a1,h9]
 ·simp[hs]
 ·rintro⟨y,s⟩ ⟨rfl,os,hq⟩;simp[hq]
theorem run105 (l:List Int) (n:Int) (hl:l.length<1000000000) (hi:incr l=true):K 105 [.dat (Ns l),.dat (N n)] []=some (.dat (Ns (del n l)),[]):=by
 have h1:=run178 l [n] false hl (by simp) hi
 have e:flt [n] false l=del n l:=by
  unfold flt del
  congr 1
  funext x;by_cases c:x=n<;>simp[c]
 rw[e]at h1;simp only[Ns,List.map_cons,List.map_nil]at h1;exact ce rfl (by simp[h1])
end Go.Am.E

set_option maxRecDepth 10000
set_option maxHeartbeats 4000000
namespace Go.Am.E
open Go.Proofs Go.Ex Go.Rc
attribute [-simp] splice
attribute [local simp] zma7
def dfnP (i:In):AVal:=match dfn i with
 |some a=>.tup [.dat (N a),.dat (.bool true)]
 |none=>.tup [.dat (N 0),.dat (.bool false)]
theorem run101 (i:In):K 101 [.dat (ID i)] []=some (dfnP i,[]):=by
 have h1:=run173 i;refine ce rfl ?_;unfold dfnP dfn;rcases Classical.propComplete (chI i=0) with c|c
 ·have hk:=(chI_ok (by rw[c];trivial:chI i=0)).1;simp only[kn,decide_eq_true_eq]at hk;obtain⟨k,hk1,hk2⟩:∃k:Nat,i.op=(k:Int)+1∧k<22:=⟨(i.op-1).toNat,by omega,by omega⟩
  match k,hk2 with
  |0,_|1,_|2,_|3,_|4,_|5,_|6,_|7,_|8,_|9,_|10,_|11,_|12,_|13,_|14,_|15,_|16,_|17,_|18,_|19,_|20,_|21,_=>simp[h1,c,hk1,glob0,uk,us,kn,ut]
  |n+22,h=>exact absurd h (by omega)
 ·simp[h1,c]
theorem run103 (t:Th) (m:Int) (hb:t.hd.length<1000000000) (hi:incr t.hd=true) (hp:0≤t.pc) (hp2:t.pc<100000000000):K 103 [.dat (TD t),.dat (N m)] []=some (.dat (TD (waitT t m)),[]):=by
 have h1:=run105 t.hd m hb hi;obtain⟨v,A,h2,h3,h4,h5⟩:=run104 t.hd m hb hi;have w:IntKind.wrap .i64 (t.pc+1)=t.pc+1:=wrap_i64 (by omega) (by omega);refine ce rfl ?_;unfold waitT;by_cases c1:t.ph=0
 ·simp[h1,c1]
 ·by_cases c2:t.ph=1
  ·simp[c1,c2]
  ·have h6:(ins m t.hd).length≤A.length:=h4;simp[h2,c1,c2,w,TDc_unf,zcd7,h6,h3,←List.map_take]
end Go.Am.E

set_option maxRecDepth 10000
set_option maxHeartbeats 8000000
namespace Go.Am.E
open Go.Proofs Go.Ex Go.Rc
attribute [-simp] splice
attribute [local simp] zma7
theorem incr_len:∀{l:List Int} {lo n:Int},l.Pairwise (·<·)→(∀x∈l,lo≤x∧x<n)→l.length≤(n-lo).toNat
 |[],_,_,_,_=>by simp
 |a::r,lo,n,h,hb=>by
  have h':=List.pairwise_cons.1 h;have h1:=hb a (by simp);have ih:=incr_len (l:=r) (lo:=a+1) (n:=n) h'.2 fun x hx=>⟨by have:=h'.1 x hx;omega,(hb x (by simp[hx])).2⟩
  simp only[List.length_cons];omega
structure Fr (p:Pg) (bd:Int) (t:Th):Prop where
 rg:∀j,j<8→isVal (t.rg j)
 st:0≤t.st∧t.st≤bd
 ch:0≤t.ch∧t.ch≤7
 hd:incr t.hd=true
 hl:t.hd.length≤4
 id:dep t.id≠none
theorem chP_lim {p:Pg} (h:chP p=0):p.vs.length≤8∧p.ms.length≤4∧p.cs.length≤4∧p.fs.length≤8:=by
 have h1:=fst0_all h (limE p) (by simp);unfold limE at h1;split at h1
 ·cases h1
 ·omega
theorem frmT_fr {p:Pg} {bd:Int} {t:Th} (hp:chP p=0) (h:frmT p bd t=true):Fr p bd t:=by
 unfold frmT at h;split at h
 ·cases h
 ·rename_i d hd;simp only[Bool.and_eq_true,decide_eq_true_eq,List.all_eq_true,List.mem_range]at h;obtain⟨⟨⟨⟨⟨⟨⟨⟨h1,h2⟩,h3⟩,h4⟩,h5⟩,h6⟩,h7⟩,h8⟩,-⟩:=h;have:=incr_len (incr_pw h7) h8;have:=chP_lim hp;exact⟨fun j hj=>okV_iff.1 (h3 j hj),h4,h5,h7,by omega,by rw[hd];simp⟩
def cmpPr (p:Pg) (bd:Int) (t:Th) (v:Int):AVal:=if Go.Ex.cmpE p bd t v=0 then .tup [.dat (TD (cmpT p bd t v)),.dat (N 0)] else .tup [.dat (.agg D17),.dat (N (Go.Ex.cmpE p bd t v))]
theorem okT_run {p:Pg} {bd:Int} {t:Th} (h:okT p bd t=true) (hs:t.ss=1):frmT p bd t=true∧∃i,insT p t=some i∧vis i.op=true∧obs t i=0∧t.st<bd∧t.ft=0:=by
 unfold okT at h;rw[Bool.and_eq_true]at h;refine⟨h.1,?_⟩;have h:=h.2;cases c:insT p t with
 |none=>rw[c]at h;simp[hs]at h
 |some i=>
  rw[c]at h;simp[hs]at h;exact⟨i,rfl,h.1.1.2,h.1.2,h.2,h.1.1.1⟩
theorem dfn_lt {i:In} {a:Int} (h:dfn i=some a):0≤a∧a<8∧i.a=a:=by
 unfold dfn at h;split at h
 ·rename_i h1;injection h with h;subst h;have:=(chI_ok h1.1).2.1.1 h1.2;exact⟨this.1,this.2,rfl⟩
 ·cases h
theorem rn_bump {p:Pg} {t u:Th} {i:In} (hp:chP p=0) (h:Rn p t) (hi:insT p t=some i) (h1:u.fn=t.fn) (h2:u.pc=t.pc∨u.pc=t.pc+1) (h3:u.id=t.id) (h4:u.hd.length<1000000000):Rn p u:=by
 obtain⟨g1,g2,g3⟩:=insT_ok hp h.i hi;have h0:=h.i.p0;refine⟨⟨by rw[h1];exact h.i.f0,by rw[h1];exact h.i.f1,by omega⟩,⟨by rw[h3];exact h.b.id,h4⟩,?_⟩;rw[codeT_fn h1];omega
theorem ins_len (n:Int):∀l:List Int,(ins n l).length≤l.length+1
 |[]=>by simp[ins]
 |a::r=>by
  have:=ins_len n r;simp only[ins];split
  ·simp
  ·split
   ·simp
   ·simp;omega
theorem nxtT_same (t:Th) (i:In) (v:Int):(nxtT t i v).fn=t.fn∧(nxtT t i v).id=t.id∧((nxtT t i v).pc=t.pc∨(nxtT t i v).pc=t.pc+1)∧(nxtT t i v).hd.length≤t.hd.length+1:=by
 have h1:=ins_len i.o t.hd;have h2:=ins_len i.n t.hd;have h3:(del i.o t.hd).length≤t.hd.length:=List.length_filter_le ..;have h4:(del i.n t.hd).length≤t.hd.length:=List.length_filter_le ..;unfold nxtT waitT;cases dfn i<;>dsimp only[setR]<;>repeat' split
 all_goals refine⟨rfl,rfl,?_,?_⟩
 all_goals first|exact .inl rfl|exact .inr rfl|(dsimp only;omega)
theorem TDc_t16 (t:Th):(TDc t).take 16=[.dat (N t.id),.dat (N t.fn),.dat (N t.pc),.dat (N (t.rg 0)),.dat (N (t.rg 1)),.dat (N (t.rg 2)),.dat (N (t.rg 3)),.dat (N (t.rg 4)),.dat (N (t.rg 5)),.dat (N (t.rg 6)),.dat (N (t.rg 7)),.dat (N t.st),.dat (N t.ch),.dat (N t.ph),.dat (N t.ss),.dat (N t.ft)]:=rfl
theorem run45 (p:Pg) (hf:Fit p) (bd:Int) (t:Th) (hb:Tb t) (v:Int):K 45 [.dat (PD p),.dat (N bd),.dat (TD t),.dat (N v)] []=some (cmpPr p bd t v,[]):=by
 have h1:=run98 p bd hf;have h2:=run100 v;have e2:=w32_okV v;unfold cmpPr Go.Ex.cmpE;refine ce rfl ?_;rcases Classical.propComplete (stdE p bd=0) with c1|c1
 ·have hst:=zpd7 (by rw[c1];trivial:stdE p bd=0);have hp:=hst.1;have h3:=run99 p hp bd t hb;cases c2:okT p bd t
  ·rw[c2]at h3;simp[h1,h3,c1]
  ·rw[c2]at h3;rcases Classical.propComplete (t.ss=1) with c3|c3
   ·cases c4:okV v
    ·rw[c4]at e2;simp[h1,h2,e2,h3,c1,c3]
    ·rw[c4]at e2;simp only[eq_self_iff_true]at e2;obtain⟨hfr,i,hi,hv,ho,hlt,hft⟩:=okT_run c2 (by rw[c3];trivial);have hr:=frmT_in hb hfr;have F:=frmT_fr hp hfr;obtain⟨r1,⟨s1,s2⟩,⟨ch1,ch2⟩,hinc,hlen,hid⟩:=F;have h4:=run91 p t hr.i;rw[hi]at h4;simp only[insP]at h4;obtain⟨g1,g2,g3⟩:=insT_ok hp hr.i hi;have h0:=hr.i.p0;have h5:=run101 i;have ws:IntKind.wrap .i64 (t.st+1)=t.st+1:=wrap_i64 (by omega) (by omega);have wp:IntKind.wrap .i64 (t.pc+1)=t.pc+1:=wrap_i64 (by omega) (by omega);have wc:IntKind.wrap .i64 (t.ch+1)=t.ch+1:=wrap_i64 (by omega) (by omega);obtain⟨q1,q2,q3,q4⟩:=nxtT_same t i v;have h7:=run102 p hp bd (nxtT t i v) (rn_bump hp hr hi q1 q3 q2 (by omega));have e3:cmpT p bd t v=setl p bd 256 (nxtT t i v):=by unfold cmpT;rw[hi]
     rw[e3];generalize setl p bd 256 (nxtT t i v)=R at h7;unfold nxtT at h7;unfold dfnP at h5;cases c5:dfn i with
     |none=>
      rw[c5]at h5 h7;simp only at h5 h7;by_cases o18:i.op=18
      ·have h6:=run103 { t with st:=t.st+1 } i.n (by simp;omega) hinc h0 (by simp;omega);simp only[o18,if_true]at h7;simp[h1,h2,e2,h3,h4,h5,h6,h7,c1,c3,o18,ws]
      ·by_cases o17:i.op=17
       ·by_cases v0:v=0
        ·simp[o18,o17,v0,setR]at h7;subst v0;simp[h1,h2,e2,h3,h4,h5,c1,c3,ws,o18,o17,wp,h7]
        ·obtain⟨w,A,h8,h9,h10,h11⟩:=run104 t.hd i.o (by omega) hinc;simp[o18,o17,v0]at h7;simp only[TD,zcd7]at h7;simp[h1,h2,e2,h3,h4,h5,c1,c3,ws,o18,o17,v0,wp,h7,h8,h9,h10,←List.map_take,TDc_s16r,TDc_t16];exact (zcd7 R).symm
       ·by_cases o15:i.op=15
        ·obtain⟨w,A,h8,h9,h10,h11⟩:=run104 t.hd i.o (by omega) hinc;simp[o18,o17,o15]at h7;simp only[TD,zcd7]at h7;simp[h1,h2,e2,h3,h4,h5,c1,c3,ws,o18,o17,o15,wp,h7,h8,h9,h10,←List.map_take,TDc_s16r,TDc_t16];exact (zcd7 R).symm
        ·by_cases o16:i.op=16
         ·have h8:=run105 t.hd i.o (by omega) hinc;simp[o18,o17,o15,o16]at h7;simp[h1,h2,e2,h3,h4,h5,c1,c3,ws,o18,o17,o15,o16,wp,h7,h8]
         ·by_cases o21:i.op=21
          ·simp[o18,o17,o15,o16,o21]at h7;simp[h1,h2,e2,h3,h4,h5,c1,c3,ws,o18,o17,o15,o16,o21,wp,wc,h7]
          ·simp[o18,o17,o15,o16,o21]at h7;simp[h1,h2,e2,h3,h4,h5,c1,c3,ws,o18,o17,o15,o16,o21,wp,h7]
     |some a=>
      rw[c5]at h5 h7;simp only at h5 h7;obtain⟨d1,d2,-⟩:=dfn_lt c5;obtain⟨k,hk,k1,k2,k3,k4⟩:=rg8 ⟨d1,d2⟩;subst hk;by_cases o18:i.op=18
      ·have h6:=run103 (setR { t with st:=t.st+1 } k v) i.n (by simp[setR];omega) hinc h0 (by simp[setR];omega);simp only[o18,if_true]at h7;simp[setR]at h6 h7;simp[h1,h2,e2,h3,h4,h5,h6,h7,c1,c3,o18,ws,TDc_sr,k1,k2,k3,k4]
      ·by_cases o17:i.op=17
       ·by_cases v0:v=0
        ·simp[o18,o17,v0,setR]at h7;subst v0;simp[h1,h2,e2,h3,h4,h5,c1,c3,ws,o18,o17,wp,h7,TDc_sr,k1,k2,k3,k4]
        ·obtain⟨w,A,h8,h9,h10,h11⟩:=run104 t.hd i.o (by omega) hinc;simp[o18,o17,v0,setR]at h7;simp only[TD,zcd7]at h7;simp[h1,h2,e2,h3,h4,h5,c1,c3,ws,o18,o17,v0,wp,h7,h8,h9,h10,←List.map_take,TDc_s16r,TDc_t16,TDc_sr,k1,k2,k3,k4];exact (zcd7 R).symm
       ·by_cases o15:i.op=15
        ·obtain⟨w,A,h8,h9,h10,h11⟩:=run104 t.hd i.o (by omega) hinc;simp[o18,o17,o15,setR]at h7;simp only[TD,zcd7]at h7;simp[h1,h2,e2,h3,h4,h5,c1,c3,ws,o18,o17,o15,wp,h7,h8,h9,h10,←List.map_take,TDc_s16r,TDc_t16,TDc_sr,k1,k2,k3,k4];exact (zcd7 R).symm
        ·by_cases o16:i.op=16
         ·have h8:=run105 t.hd i.o (by omega) hinc;simp[o18,o17,o15,o16,setR]at h7;simp[h1,h2,e2,h3,h4,h5,c1,c3,ws,o18,o17,o15,o16,wp,h7,h8,TDc_sr,k1,k2,k3,k4]
         ·by_cases o21:i.op=21
          ·simp[o18,o17,o15,o16,o21,setR]at h7;simp[h1,h2,e2,h3,h4,h5,c1,c3,ws,o18,o17,o15,o16,o21,wp,wc,h7,TDc_sr,k1,k2,k3,k4]
          ·simp[o18,o17,o15,o16,o21,setR]at h7;simp[h1,h2,e2,h3,h4,h5,c1,c3,ws,o18,o17,o15,o16,o21,wp,h7,TDc_sr,k1,k2,k3,k4]
   ·simp[h1,h3,c1,c3]
 ·simp[h1,c1]
end Go.Am.E

set_option maxRecDepth 10000
set_option maxHeartbeats 8000000
namespace Go.Am.E
open Go.Proofs Go.Ex Go.Rc
theorem run134 (l:List Int) (hl:l.length<10000000000):K 134 [.dat (Ns l)] []=some (.rsl ((0,0),0,0) 0 1 0 l.length,[aI 0 l]):=by
 have h:8*(l.length:Int)≤1099511627776:=by omega
 have h2:(l.length:Int)≤1099511627776:=by omega
 refine ce rfl ?_;simp[h,h2]
abbrev ownC (q:List Int):Cell:=.own true false 1 (q.map N)
abbrev fmQ (qs:List (List Int)) (k:Nat):TObj:=.fam 0 k false ((qs.map ownC).take k++List.replicate (qs.length-k) Cell.nil)
structure Mb (m:Me):Prop where
 va:m.va.length<1000000000
 ow:m.ow.length<1000000000
 qu:m.qu.length<1000000000
 qs:∀q∈m.qu,q.length<400000000
 sg:m.sg.length<400000000
abbrev nil4:TObj:=.plain (.box [.nils,.nils,.nils,.nils])
abbrev X254 (m:Me) (k:Nat):zsa7:=[((3,0),nil4),((4,0),.plain (.box [.rsl ((4,1),0,0) 0 1 0 m.va.length,.rsl ((4,2),0,0) 0 1 0 m.ow.length,.rsl ((4,3),0,0) 0 1 0 m.qu.length,.rsl ((4,4),0,0) 0 1 0 m.sg.length])),
 ((4,1),aI 0 m.va),((4,2),aI 0 m.ow),((4,3),fmQ m.qu k),((4,4),aI 0 m.sg)]
abbrev E254 (m:Me) (k:Nat):Env:=[(2,.ref ((3,0),0,0) 0),(3,.ref ((4,0),0,0) 0),(21,.dat (.sl (m.qu.map Ns))),(22,.dat (N m.qu.length)),(23,.dat (N k))]
abbrev MV (m:Me):AVal:=.agg [.rsl ((0,0),0,0) 0 1 0 m.va.length,.rsl ((0,1),0,0) 0 1 0 m.ow.length,.rsl ((0,2),0,0) 0 1 0 m.qu.length,.rsl ((0,3),0,0) 0 1 0 m.sg.length]
abbrev MO (m:Me):List TObj:=[aI 0 m.va,aI 0 m.ow,.fam 0 m.qu.length false (m.qu.map ownC),aI 0 m.sg]
theorem fm_step {qs:List (List Int)} {i:Nat} {q:List Int} (h:qs[i]?=some q):((qs.map ownC).take i++List.replicate (qs.length-i) Cell.nil).set i (.own true false 1 (q.map N))=(qs.map ownC).take (i+1)++List.replicate (qs.length-(i+1)) Cell.nil:=by
 have hi:=(List.getElem?_eq_some_iff.1 h).1;have e:((qs.map ownC).take i).length=i:=by simp;omega
 rw[List.set_append,if_neg (by omega),e,Nat.sub_self,zpe7 (l:=qs.map ownC) (x:=ownC q) (by rw[List.getElem?_map,h];rfl),show qs.length-i=(qs.length-(i+1))+1 by omega,List.replicate_succ];simp
theorem fm_get {qs:List (List Int)} {i:Nat} (h:i<qs.length):((qs.map ownC).take i++List.replicate (qs.length-i) Cell.nil)[i]?=some .nil:=by
 have e:((qs.map ownC).take i).length=i:=by simp;omega
 rw[List.getElem?_append_right (by omega),e,Nat.sub_self,List.getElem?_replicate,if_pos (by omega)]
theorem run65 (m:Me) (h:Mb m):K 65 [.dat (MD m)] []=some (MV m,MO m):=by
 obtain⟨h1,h2,h3,h4,h5⟩:=h;have g1:=run134 m.va (by omega);have g2:=run134 m.ow (by omega);have g3:=run134 m.sg (by omega);have r1:24*(m.qu.length:Int)≤1099511627776:=by omega
 have r2:(m.qu.length:Int)≤1099511627776:=by omega
 refine ce rfl ?_;simp[g1,g2,g3,r1,r2];simp only[zaa7]
 refine (zeb7 (live:=[2,3,21,22,23]) (drop:=[2,3,21]) m.qu (by omega) (fun k=>⟨E254 m k,X254 m k⟩) (fun _ q=>q.1=.exit 0∧hd [2,3] [] q.2=some ⟨[(2,.ref ((3,0),0,0) 0),(3,.ref ((4,0),0,0) 0)],X254 m m.qu.length⟩)
  (fun i y s d1 d2 d3 ix hs=>?_) (fun s hs=>?_) _ (by simp)).mono ?_
 ·have g4:=run134 y (by have:=h4 y (List.mem_of_getElem? d1);omega);have hi:i<m.qu.length:=by omega
  have f1:=fm_get hi;have f2:=fm_step d1;simp[hs,d1,d2,d3,ix,g4,f1,f2]
 ·simp[hs]
 ·rintro⟨y,s⟩ ⟨rfl,hq⟩;simp[hq]
end Go.Am.E

set_option maxRecDepth 10000
set_option maxHeartbeats 8000000
namespace Go.Am.E
open Go.Proofs Go.Ex Go.Rc
abbrev mbox (m:Me):TObj:=.plain (.box [.dat (Ns m.va),.dat (Ns m.ow),.dat (.sl (m.qu.map Ns)),.dat (Ns m.sg)])
theorem loop140_0 (m:Me) (hl:m.va.length<100000000000) (s:St) (hs:hd [1,35,36,37] [] s=some ⟨[(1,.ref ((2,0),0,0) 0),(35,.dat (Ns m.va)),(36,.dat (N m.va.length)),(37,.dat (N 0))],[((2,0),mbox m)]⟩):
  Ev (zga7 (exec K l140_0) s) (oQ (fun q=>q.1=.exit 0∧hd [1] [] q.2=some ⟨[(1,.ref ((2,0),0,0) 0)],[((2,0),mbox m)]⟩) (fun _ q=>q.1=.ret∧endK [.t 2] false 0 q=some (.dat (.bool false),[])) (if m.va.all okV=true then none else some ())):=by
 rw[←scan_all okV m.va 0]
 refine zzb7 (live:=[1,35,36,37]) (drop:=[]) m.va _ (by omega) (fun k=>⟨[(1,.ref ((2,0),0,0) 0),(35,.dat (Ns m.va)),(36,.dat (N m.va.length)),(37,.dat (N k))],[((2,0),mbox m)]⟩) _ _
  (fun i y s h1 h2 h3 ix hs=>?_) (fun s hs=>?_) s hs
 ·by_cases c1:y < -2147483648
  ·have c:okV y=false:=by simp[okV];omega
   simp[hs,h1,h2,h3,ix,c1,c]
  ·by_cases c2:2147483647<y
   ·have c:okV y=false:=by simp[okV];omega
    simp[hs,h1,h2,h3,ix,c1,c2,c]
   ·have c:okV y=true:=by simp[okV];omega
    simp[hs,h1,h2,h3,ix,c1,c2,c]
 ·simp[hs]
def okO (o:Int):Bool:=decide (-1≤o)
theorem loop140_1 (m:Me) (hl:m.ow.length<100000000000) (s:St) (hs:hd [1,49,50,51] [] s=some ⟨[(1,.ref ((2,0),0,0) 0),(49,.dat (Ns m.ow)),(50,.dat (N m.ow.length)),(51,.dat (N 0))],[((2,0),mbox m)]⟩):
  Ev (zga7 (exec K l140_1) s) (oQ (fun q=>q.1=.exit 2∧hd [1] [] q.2=some ⟨[(1,.ref ((2,0),0,0) 0)],[((2,0),mbox m)]⟩) (fun _ q=>q.1=.ret∧endK [.t 2] false 0 q=some (.dat (.bool false),[])) (if m.ow.all okO=true then none else some ())):=by
 rw[←scan_all okO m.ow 0]
 refine zzb7 (live:=[1,49,50,51]) (drop:=[]) m.ow _ (by omega) (fun k=>⟨[(1,.ref ((2,0),0,0) 0),(49,.dat (Ns m.ow)),(50,.dat (N m.ow.length)),(51,.dat (N k))],[((2,0),mbox m)]⟩) _ _
  (fun i y s h1 h2 h3 ix hs=>?_) (fun s hs=>?_) s hs
 ·by_cases c1:y < -1
  ·have c:okO y=false:=by simp[okO];omega
   simp[hs,h1,h2,h3,ix,c1,c]
  ·have c:okO y=true:=by simp[okO];omega
   simp[hs,h1,h2,h3,ix,c1,c]
 ·simp[hs]
def allM (m:Me) (k:Nat):List Int:=m.sg++(m.qu.take k).flatten
theorem allM_len (m:Me) (h:Mb m) (h4:m.qu.length≤4) (k:Nat):(allM m k).length≤5000000000:=by
 have:∀l:List (List Int),(∀q∈l,q.length<1000000000)→l.flatten.length≤l.length*1000000000:=by
  intro l
  induction l with
  |nil=>intro _;simp
  |cons a r ih=>
   intro hl;have h1:=hl a (by simp);have h2:=ih fun q hq=>hl q (by simp[hq])
   simp only[List.flatten_cons,List.length_append,List.length_cons];omega
 have h1:=this (m.qu.take k) fun q hq=>by have:=h.qs q (List.mem_of_mem_take hq);omega
 have h2:=h.sg;have h3:(m.qu.take k).length≤4:=by simp;omega
 unfold allM;rw[List.length_append];omega
def verM (m:Me) (k:Nat):Nat:=((m.qu.take k).filter fun q=>!q.isEmpty).length
abbrev S257 (m:Me) (k:Nat):zsa7:=[((8,0),aI (verM m k) (allM m k))]
theorem loop140_2 (m:Me) (h:Mb m) (h4:m.qu.length≤4) (s:St) (hs:hd [7,62,63,64] [7,62] s=some ⟨[(7,.rsl ((8,0),0,0) 0 1 0 m.sg.length),(62,.dat (.sl (m.qu.map Ns))),(63,.dat (N m.qu.length)),(64,.dat (N 0))],[((8,0),aI 0 m.sg)]⟩):
  Ev (zga7 (exec K l140_2) s) fun q=>q.1=.exit 4∧hd [7] [] q.2=some ⟨[(7,.rsl ((8,0),0,0) (verM m m.qu.length) 1 0 (allM m m.qu.length).length)],S257 m m.qu.length⟩:=by
 refine zeb7 (live:=[7,62,63,64]) (drop:=[7,62]) m.qu (by have:=h.qu;omega) (fun k=>⟨[(7,.rsl ((8,0),0,0) (verM m k) 1 0 (allM m k).length),(62,.dat (.sl (m.qu.map Ns))),(63,.dat (N m.qu.length)),(64,.dat (N k))],S257 m k⟩)
  (fun _ q=>q.1=.exit 4∧hd [7] [] q.2=some ⟨[(7,.rsl ((8,0),0,0) (verM m m.qu.length) 1 0 (allM m m.qu.length).length)],S257 m m.qu.length⟩)
  (fun i y s h1 h2 h3 ix hs=>?_) (fun s hs=>?_) s (by rw[hs];simp[allM,verM])
 ·have e:allM m (i+1)=allM m i++y:=by unfold allM;rw[zpe7 h1];simp
  have hb:=allM_len m h h4 i;have hy:=h.qs y (List.mem_of_getElem? h1);have r1:((allM m i).length+y.length)*9≤1099511627776:=by omega
  rcases y with _|⟨a,y⟩
  ·have ev:verM m (i+1)=verM m i:=by unfold verM;rw[zpe7 h1];simp
   rw[List.append_nil]at e;have r2:(allM m i).length*9≤1099511627776:=by omega
   simp[hs,h1,h2,h3,ix,e,ev,r2]
  ·have ev:verM m (i+1)=verM m i+1:=by unfold verM;rw[zpe7 h1];simp
   rw[List.length_cons]at r1;simp[hs,h1,h2,h3,ix,e,ev,r1]
 ·simp[hs]
def dstF (L:List Int) (i:Nat) (n:Int):Option Unit:=if 0≤n∧n∉L.take i then none else some ()
theorem dst_scan (L:List Int):∀(r pre:List Int),L=pre++r→scan (dstF L) r pre.length=if (r.all fun n=>decide (0≤n))=true∧r.Nodup∧∀n∈r,n∉pre then none else some ()
 |[],pre,_=>by simp[scan]
 |n::r,pre,h=>by
  have ih:=dst_scan L r (pre++[n]) (by rw[h];simp);have e:L.take pre.length=pre:=by rw[h];simp
  have e1:(pre++[n]).length=pre.length+1:=by simp
  rw[e1]at ih;by_cases c1:0≤n∧n∉pre
  ·have e2:dstF L pre.length n=none:=by simp only[dstF,e,c1,not_false_eq_true,and_self,if_true]
   simp only[scan,e2,ih]
   congr 1
   rw[eq_iff_iff];simp only[List.all_cons,Bool.and_eq_true,decide_eq_true_eq,List.nodup_cons,List.mem_append,List.mem_cons,List.not_mem_nil,or_false,not_or,c1,true_and];constructor
   ·rintro⟨a,b,c⟩;refine⟨a,⟨fun hn=>(c n hn).2 rfl,b⟩,fun x hx=>?_⟩;rcases hx with rfl|hx
    ·exact c1.2
    ·exact (c x hx).1
   ·rintro⟨a,⟨b,b'⟩,c⟩;exact⟨a,b',fun x hx=>⟨c x (.inr hx),fun hx'=>b (hx'▸hx)⟩⟩
  ·have e2:dstF L pre.length n=some ():=by simp only[dstF,e,c1,if_false]
   simp only[scan,e2];rw[if_neg];rintro⟨a,b,c⟩;simp only[List.all_cons,Bool.and_eq_true,decide_eq_true_eq]at a;exact c1 ⟨a.1,c n (by simp)⟩
theorem loop140_3 (L:List Int) (v:Nat) (hl:L.length<10000000000) (s:St) (hs:hd [7,72,73,74] [] s=some ⟨[(7,.rsl ((8,0),0,0) v 1 0 L.length),(72,.rsl ((8,0),0,0) v 1 0 L.length),(73,.dat (N L.length)),(74,.dat (N 0))],[((8,0),aI v L)]⟩):
  Ev (zga7 (exec K l140_3) s) (oQ (fun q=>q.1=.exit 6∧∃os,hd [] [] q.2=some ⟨[],os⟩) (fun _ q=>q.1=.ret∧endK [.t 2] false 0 q=some (.dat (.bool false),[])) (scan (dstF L) L 0)):=by
 refine zzb7 (live:=[7,72,73,74]) (drop:=[]) L (dstF L) (by omega) (fun k=>⟨[(7,.rsl ((8,0),0,0) v 1 0 L.length),(72,.rsl ((8,0),0,0) v 1 0 L.length),(73,.dat (N L.length)),(74,.dat (N k))],[((8,0),aI v L)]⟩) _ _
  (fun i y s h1 h2 h3 ix hs=>?_) (fun s hs=>?_) s hs
 ·have h4:=run42 (L.take i) y (by simp;omega);simp only[Ns,List.map_take]at h4;have hi:i≤L.length:=by omega
  have hi2:(i:Int)≤L.length:=by omega
  by_cases c1:y<0
  ·have c:dstF L i y=some ():=by simp only[dstF];rw[if_neg];omega
   simp[hs,h1,h2,h3,ix,c1,c]
  ·by_cases c2:y∈L.take i
   ·have c:dstF L i y=some ():=by simp only[dstF];rw[if_neg];simp[c2]
    simp[c2]at h4;simp[hs,h1,h2,h3,ix,c1,c,h4,hi,hi2]
   ·have c:dstF L i y=none:=by simp only[dstF];rw[if_pos ⟨by omega,c2⟩]
    simp[c2]at h4;simp[hs,h1,h2,h3,ix,c1,c,h4,hi,hi2]
 ·simp[hs]
def dstB (L:List Int):Bool:=(L.all fun n=>decide (0≤n))&&decide L.Nodup
theorem frmM_eq (m:Me):frmM m=(decide (m.va.length≤8∧m.ow.length≤4∧m.qu.length≤4)&&incr m.sg&&m.va.all okV&&m.ow.all okO&&dstB (allM m m.qu.length)):=by
 unfold frmM allM dstB;rw[List.take_length];simp only[Bool.and_assoc];rfl
theorem dstB_scan (L:List Int):scan (dstF L) L 0=if dstB L=true then none else some ():=by
 have e:=dst_scan L L [] rfl;simp only[List.length_nil,List.not_mem_nil,not_false_eq_true,implies_true,and_true]at e;rw[e,dstB]
 congr 1
 rw[eq_iff_iff,Bool.and_eq_true,decide_eq_true_eq]
theorem run140 (m:Me) (h:Mb m):K 140 [.dat (MD m)] []=some (.dat (.bool (frmM m)),[]):=by
 have h1:=run212 m.sg (by have:=h.sg;omega);have h2:=run134 m.sg (by have:=h.sg;omega);have hva:=h.va;have how:=h.ow;rw[frmM_eq];refine ce rfl ?_;by_cases c1:(8:Int)<m.va.length
 ·simp[c1,show ¬(m.va.length≤8) by omega]
 by_cases c2:(4:Int)<m.ow.length
 ·simp[c1,c2,show ¬(m.ow.length≤4) by omega]
 by_cases c3:(4:Int)<m.qu.length
 ·simp[c1,c2,c3,show ¬(m.qu.length≤4) by omega]
 rw[show decide (m.va.length≤8∧m.ow.length≤4∧m.qu.length≤4)=true by simp;omega,Bool.true_and];cases c4:incr m.sg
 ·rw[c4]at h1;simp[c1,c2,c3,h1]
 rw[c4]at h1;rw[Bool.true_and];simp[c1,c2,c3,h1];simp only[zaa7];refine (loop140_0 m (by omega) _ (by simp[c1,c2,c3,h1])).mono ?_;rintro⟨y,s⟩ hq;cases c5:m.va.all okV<;>rw[c5]at hq
 ·simp only[Bool.false_eq_true,if_false,oQ_s]at hq;obtain⟨rfl,hq⟩:=hq;simp[hq]
 simp only[if_true,oQ_n]at hq;obtain⟨rfl,hq⟩:=hq;simp[hq];simp only[zaa7];refine (loop140_1 m (by omega) _ (by simp[hq])).mono ?_;rintro⟨y,s⟩ hq;cases c6:m.ow.all okO<;>rw[c6]at hq
 ·simp only[Bool.false_eq_true,if_false,oQ_s]at hq;obtain⟨rfl,hq⟩:=hq;simp[hq]
 simp only[if_true,oQ_n]at hq;obtain⟨rfl,hq⟩:=hq;simp[hq,h2];simp only[zaa7];refine (loop140_2 m h (by omega) _ (by simp[hq,h2])).mono ?_;rintro⟨y,s⟩ ⟨rfl,hq⟩;simp[hq];simp only[zaa7];have hL:=allM_len m h (by omega) m.qu.length;refine (loop140_3 (allM m m.qu.length) (verM m m.qu.length) (by omega) _ (by simp[hq])).mono ?_;rintro⟨y,s⟩ hq;rw[dstB_scan]at hq;cases c7:dstB (allM m m.qu.length)<;>rw[c7]at hq
 ·simp only[Bool.false_eq_true,if_false,oQ_s]at hq;obtain⟨rfl,hq⟩:=hq;simp[hq]
 ·simp only[if_true,oQ_n]at hq;obtain⟨rfl,os,hq⟩:=hq;simp[hq]
end Go.Am.E

set_option maxRecDepth 10000
set_option maxHeartbeats 8000000
namespace Go.Am.E
open Go.Proofs Go.Ex Go.Rc
theorem run213 (m:Me) (h:Mb m) (i:Int) (n:Nat):K 213 [.dat (MD m),.dat (N i),.dat (N n)] []=some (.dat (N (inE m i n)),[]):=by
 have h1:=run140 m h;refine ce rfl ?_;unfold inE;cases c1:frmM m<;>rw[c1]at h1
 ·simp[h1]
 ·by_cases c2:i<0
  ·simp[h1,c2]
  ·by_cases c3:(n:Int)≤i<;>simp[h1,c2,c3]
theorem inE_ok {m:Me} {i:Int} {n:Nat} (h:inE m i n=0):frmM m=true∧0≤i∧i<n:=by
 unfold inE at h;split at h
 ·cases h
 ·split at h
  ·cases h
  ·exact⟨by simpa using ‹¬frmM m=false›,by omega,by omega⟩
theorem geti_get {l:List Int} {i:Int} (h0:0≤i) (h1:i<l.length):∃k:Nat,i=k∧k<l.length∧(k:Int)<l.length∧l[k]?=some (geti l i)∧∀h:k<l.length,l[k]=geti l i:=by
 obtain⟨a,a1,a2⟩:=zad7 l (i:=i.toNat) (by omega);have:geti l i=a:=by unfold geti;rw[a1];rfl
 rw[this];exact⟨i.toNat,by omega,by omega,by omega,a1,a2⟩
def redP (m:Me) (x:Int):AVal:=if inE m x m.va.length=0 then .tup [.dat (N (geti m.va x)),.dat (N 0)] else .tup [.dat (N 0),.dat (N (inE m x m.va.length))]
theorem run141 (m:Me) (h:Mb m) (x:Int):K 141 [.dat (MD m),.dat (N x)] []=some (.dat (.bool (freM m x)),[]):=by
 have h1:=run213 m h x m.ow.length;refine ce rfl ?_;unfold freM;rcases Classical.propComplete (inE m x m.ow.length=0) with c1|c1
 ·obtain⟨-,g1,g2⟩:=inE_ok (by rw[c1];trivial:inE m x m.ow.length=0);obtain⟨k,hk,k1,k2,k3,k4⟩:=geti_get g1 g2;generalize geti m.ow x=v at *
  subst hk;by_cases c2:v = -1<;>simp[h1,c1,k1,k2,k3,k4,c2]
 ·simp[h1,c1]
theorem run72 (p:Pg) (hf:Fit p) (m:Me) (h:Mb m):K 72 [.dat (PD p),.dat (MD m)] []=some (.dat (.bool (valM p m)),[]):=by
 have h1:=run34 p hf;have h2:=run140 m h;refine ce rfl ?_;unfold valM;by_cases c1:chP p=0
 ·simp only[c1,decide_true]at h1;cases c2:frmM m<;>rw[c2]at h2
  ·simp[h1,h2,c1]
  ·have e1:((m.va.length:Int)=p.vs.length)=(m.va.length=p.vs.length):=by rw[eq_iff_iff];omega
   by_cases c3:m.va.length=p.vs.length<;>by_cases c4:m.ow.length=p.ms.length<;>by_cases c5:m.qu.length=p.cs.length<;>simp[h1,h2,c1,c3,c4,c5]
 ·simp only[c1,decide_false]at h1;simp[h1,c1]
theorem run223 (m:Me) (h:Mb m) (id:Int):K 223 [.dat (MD m),.dat (N id)] []=some (.dat (.bool (m.qu.any (·.contains id)||m.sg.contains id)),[]):=by
 have h1:=run224 m.sg id (by have:=h.sg;omega);refine ce rfl ?_;generalize hA:m.qu.any (·.contains id)=A;generalize m.sg.contains id=B at *
 simp;simp only[zaa7]
 refine (zzb7 (live:=[1,2,8,9,10]) (drop:=[]) m.qu (fun _ q=>if (!q.contains id)=true then none else some ()) (by have:=h.qu;omega) (fun k=>⟨[(1,.dat (N id)),(2,.ref ((3,0),0,0) 0),(8,.dat (.sl (m.qu.map Ns))),(9,.dat (N m.qu.length)),(10,.dat (N k))],[((3,0),mbox m)]⟩)
  (fun q=>q.1=.exit 0∧hd [1,2] [] q.2=some ⟨[(1,.dat (N id)),(2,.ref ((3,0),0,0) 0)],[((3,0),mbox m)]⟩) (fun i q=>q.1=.ret∧endK [.t 4] false 0 q=some (.dat (.bool true),[]))
  (fun i y s g1 g2 g3 ix hs=>?_) (fun s hs=>?_) _ (by simp)).mono ?_
 ·have h4:=run42 y id (by have:=h.qs y (List.mem_of_getElem? g1);omega);cases c:y.contains id<;>rw[c]at h4<;>simp[hs,g1,g2,g3,ix,h4]
 ·simp[hs]
 ·rintro⟨y,s⟩ hq;rw[scan_all (fun q:List Int=>!q.contains id)]at hq;cases A
  ·rw[if_pos (by simpa using hA)]at hq;obtain⟨rfl,hq⟩:=hq;simp[hq,h1]
  ·rw[if_neg (by simpa using hA)]at hq;obtain⟨rfl,hq⟩:=hq;simp[hq]
abbrev MD0:Dat:=.agg [.sl [],.sl [],.sl [],.sl []]
abbrev MV0:AVal:=.agg [.nils,.nils,.nils,.nils]
end Go.Am.E
