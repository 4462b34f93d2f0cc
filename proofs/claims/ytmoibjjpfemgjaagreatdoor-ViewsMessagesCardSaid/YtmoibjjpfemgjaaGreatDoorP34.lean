/- Parts of the proofs of the statement, joined and made short: V34 V35 V36 V37 V38 V39 V40 V41 V42. -/
import Derived.Test.YtmoibjjpfemgjaaGreatDoorP33
import Derived.Test.YtmoibjjpfemgjaaGreatDoorP27
set_option linter.unusedVariables false
set_option linter.unusedSimpArgs false
set_option linter.unusedSectionVars false
set_option maxRecDepth 10000
set_option maxHeartbeats 4000000
namespace Go.Am.E
open Go.Proofs Go.Ex Go.Rc
def bkF (i:Nat) (x:In):Option Unit:=if (x.op=4∨x.op=5)∧x.n≤i then some () else none
abbrev fbx (f:Str×List In):TObj:=.plain (.box [.dat (.str f.1),.dat (.sl (f.2.map ID))])
theorem run203 (f:Str×List In) (hf:f.2.length<1000000000):K 203 [.dat (FD f)] []=some (.dat (.bool (scan bkF f.2 0).isSome),[]):=by
 obtain⟨nm,l⟩:=f;simp only at hf ⊢;refine ce rfl ?_;simp[FD];simp only[zaa7]
 refine (zzb7 (live:=[1,3]) (drop:=[]) l bkF (by omega) (fun k=>⟨[(1,.ref ((2,0),0,0) 0),(3,.dat (N k))],[((2,0),fbx (nm,l))]⟩)
  (fun q=>q.1=.exit 0∧hd [] [] q.2=some ⟨[],[((2,0),fbx (nm,l))]⟩) (fun i q=>q.1=.ret∧endK [.t 2] false 0 q=some (.dat (.bool true),[]))
  (fun i y s h1 h2 h3 ix hs=>?_) (fun s hs=>?_) _ (by simp)).mono ?_
 ·by_cases c4:y.op=4
  ·by_cases c6:y.n≤i<;>simp[hs,h1,h2,h3,ix,bkF,c4,c6]
  ·by_cases c5:y.op=5
   ·by_cases c6:y.n≤i<;>simp[hs,h1,h2,h3,ix,bkF,c4,c5,c6]
   ·simp[hs,h1,h2,h3,ix,bkF,c4,c5]
 ·simp[hs]
 ·rintro⟨y,s⟩ hq;cases c:scan bkF l 0<;>rw[c]at hq<;>obtain⟨rfl,hq⟩:=hq<;>simp[hq]
def cn21 (l:List In):Nat:=(l.filter fun x=>decide (x.op=21)).length
theorem cn21_step {l:List In} {i:Nat} {x:In} (h:l[i]?=some x):cn21 (l.take (i+1))=cn21 (l.take i)+if x.op=21 then 1 else 0:=by
 unfold cn21;rw[List.take_add_one,h,Option.toList_some,List.filter_append,List.length_append];split<;>rename_i c<;>simp[c]
theorem cn21_le (l:List In):cn21 l≤l.length:=List.length_filter_le _ _
def spw (l:List In) (bd:Int):Int:=if 0<cn21 l∧(scan bkF l 0).isSome=true then max (cn21 l:Int) bd else cn21 l
theorem run135 (f:Str×List In) (bd:Int) (hf:f.2.length<1000000000):K 135 [.dat (FD f),.dat (N bd)] []=some (.dat (N (spw f.2 bd)),[]):=by
 have hb:=run203 f hf;obtain⟨nm,l⟩:=f;simp only at hf ⊢;have hl:=cn21_le l;simp[FD]at hb;refine ce rfl ?_;simp[FD];simp only[zaa7]
 refine (zeb7 (live:=[1,2,5,6]) (drop:=[]) l (by omega) (fun k=>⟨[(1,.dat (N bd)),(2,.ref ((3,0),0,0) 0),(5,.dat (N (cn21 (l.take k)))),(6,.dat (N k))],[((3,0),fbx (nm,l))]⟩)
  (fun _ q=>q.1=.exit 0∧hd [1,2,5] [] q.2=some ⟨[(1,.dat (N bd)),(2,.ref ((3,0),0,0) 0),(5,.dat (N (cn21 l)))],[((3,0),fbx (nm,l))]⟩)
  (fun i y s h1 h2 h3 ix hs=>?_) (fun s hs=>?_) _ (by simp[cn21])).mono ?_
 ·have e:=cn21_step h1;have hc:cn21 (l.take i)≤i:=Nat.le_trans (cn21_le _) (by simp;omega);have w:IntKind.wrap .i64 ((cn21 (l.take i):Int)+1)=cn21 (l.take i)+1:=wrap_i64 (by omega) (by omega);by_cases c:y.op=21
  ·rw[if_pos c]at e;simp[hs,h1,h2,h3,ix,c,e,w]
  ·rw[if_neg c,Nat.add_zero]at e;simp[hs,h1,h2,h3,ix,c,e]
 ·have e:l.take l.length=l:=List.take_length;simp[hs,e]
 ·rintro⟨y,s⟩ ⟨rfl,hq⟩;unfold spw;by_cases c:0<cn21 l
  ·have c':(0:Int)<cn21 l:=by omega
   cases k:(scan bkF l 0).isSome
   ·rw[k]at hb;simp[hq,c,c',hb]
   ·rw[k]at hb;simp[hq,c,c',hb];split<;>omega
  ·have c':¬(0:Int)<cn21 l:=by omega
   simp[hq,c,c']
def cdF (p:Pg) (k:Int):List In:=((p.fs[k.toNat]?).map (·.2)).getD []
def nL (p:Pg) (bd:Int):Nat→Int
 |0=>p.ts.length
 |k+1=>match p.ts[k]? with
  |some t=>if 0≤t.1∧t.1<p.fs.length then IntKind.wrap .i64 (nL p bd k+spw (cdF p t.1) bd) else nL p bd k
  |none=>nL p bd k
def lnF (p:Pg) (bd:Int) (i:Nat) (x:In):Option Unit:=if x.op=21∧0≤x.o∧x.o<p.fs.length∧0<spw (cdF p x.o) bd then some () else none
def lnG (p:Pg) (bd:Int) (i:Nat) (F:Str×List In):Option Unit:=scan (lnF p bd) F.2 0
abbrev pbx (p:Pg):TObj:=.plain (.box ((PDl p).map AVal.dat))
abbrev E8 (p:Pg) (bd n:Int):Env:=[(1,.dat (N bd)),(2,.ref ((3,0),0,0) 0),(5,.dat (N n))]
theorem loop70_1 (p:Pg) (bd n:Int) (hfl:p.fs.length<1000000000) (hcd:∀F∈p.fs,F.2.length<1000000000) (i:Nat) (F:Str×List In) (hi:p.fs[i]?=some F) (s0:St) (h0:hd [1,2,5,8,9] [2] s0=some ⟨E8 p bd n++[(8,.dat (N i)),(9,.dat (N (0:Nat)))],[((3,0),pbx p)]⟩):
  Ev (zga7 (exec K l70_1) s0) (oQ (fun q=>q.1=.exit 4∧hd [1,2,5,8] [] q.2=some ⟨E8 p bd n++[(8,.dat (N i))],[((3,0),pbx p)]⟩) (fun _ q=>q.1=.ret∧endK [.t 4] false 0 q=some (.dat (.bool false),[])) (scan (lnF p bd) F.2 0)):=by
 have hF:=hcd F (List.mem_of_getElem? hi);have hi1:=(List.getElem?_eq_some_iff.1 hi).1;have hi2:p.fs[i]=F:=(List.getElem?_eq_some_iff.1 hi).2;have hi3:(i:Int)<p.fs.length:=by omega
 obtain⟨nm,l⟩:=F
 refine zzb7 (live:=[1,2,5,8,9]) (drop:=[2]) l (lnF p bd) (by simp only at hF;omega) (fun k=>⟨E8 p bd n++[(8,.dat (N i)),(9,.dat (N k))],[((3,0),pbx p)]⟩) _ _
  (fun j y s h1 h2 h3 ix hs=>?_) (fun s hs=>?_) s0 h0
 ·unfold lnF;by_cases c1:y.op=21;rotate_left
  ·simp[hs,h1,h2,h3,ix,hi,hi1,hi2,hi3,FD,c1]
  by_cases c2:0≤y.o;rotate_left
  ·simp[hs,h1,h2,h3,ix,hi,hi1,hi2,hi3,FD,c1,c2]
  by_cases c3:y.o<p.fs.length;rotate_left
  ·simp[hs,h1,h2,h3,ix,hi,hi1,hi2,hi3,FD,c1,c2,c3]
  obtain⟨m,hm⟩:∃m:Nat,y.o=m:=⟨y.o.toNat,by omega⟩;have m1:m<p.fs.length:=by omega
  have m2:p.fs[m]?=some p.fs[m]:=by simp
  have h135:=run135 p.fs[m] bd (hcd _ (by simp));have e:cdF p y.o=p.fs[m].2:=by unfold cdF;rw[hm,Int.toNat_natCast,m2];rfl
  simp[FD]at h135;by_cases c4:0<spw p.fs[m].2 bd
  ·simp[hs,h1,h2,h3,ix,hi,hi1,hi2,hi3,FD,c1,c2,c3,m1,m2,h135,e,c4];simp[hm,m1,m2,hi,hi1,hi2,hi3,FD,h135,c4,ix]
  ·simp[hs,h1,h2,h3,ix,hi,hi1,hi2,hi3,FD,c1,c2,c3,m1,m2,h135,e,c4];simp[hm,m1,m2,hi,hi1,hi2,hi3,FD,h135,c4,ix]
 ·simp[hs,hi,hi1,hi2,hi3,FD]
theorem loop70_0 (p:Pg) (bd:Int) (hfl:p.fs.length<1000000000) (hcd:∀F∈p.fs,F.2.length<1000000000) (htl:p.ts.length<1000000000) (s0:St) (h0:hd [1,2,5,6] [] s0=some ⟨E8 p bd (nL p bd 0)++[(6,.dat (N (0:Nat)))],[((3,0),pbx p)]⟩):
  Ev (zga7 (exec K l70_0) s0) (fun q=>q.1=.exit 0∧hd [1,2,5] [] q.2=some ⟨E8 p bd (nL p bd p.ts.length),[((3,0),pbx p)]⟩):=by
 refine zeb7 (live:=[1,2,5,6]) (drop:=[]) p.ts (by omega) (fun k=>⟨E8 p bd (nL p bd k)++[(6,.dat (N k))],[((3,0),pbx p)]⟩)
  (fun _ q=>q.1=.exit 0∧hd [1,2,5] [] q.2=some ⟨E8 p bd (nL p bd p.ts.length),[((3,0),pbx p)]⟩)
  (fun i y s h1 h2 h3 ix hs=>?_) (fun s hs=>?_) s0 h0
 ·have e:nL p bd (i+1)=if 0≤y.1∧y.1<p.fs.length then IntKind.wrap .i64 (nL p bd i+spw (cdF p y.1) bd) else nL p bd i:=by simp only[nL,h1]
  obtain⟨a,b⟩:=y;simp only at e;by_cases c2:0≤a;rotate_left
  ·simp[c2]at e;simp[hs,h1,h2,h3,ix,NP,c2,e]
  by_cases c3:a<p.fs.length;rotate_left
  ·simp[c2,c3]at e;simp[hs,h1,h2,h3,ix,NP,c2,c3,e]
  obtain⟨m,hm⟩:∃m:Nat,a=m:=⟨a.toNat,by omega⟩;have m1:m<p.fs.length:=by omega
  have m2:p.fs[m]?=some p.fs[m]:=by simp
  have h135:=run135 p.fs[m] bd (hcd _ (by simp));have e2:cdF p a=p.fs[m].2:=by unfold cdF;rw[hm,Int.toNat_natCast,m2];rfl
  rw[e2,if_pos ⟨c2,c3⟩]at e;simp[FD]at h135;generalize spw p.fs[m].2 bd=w at *
  subst hm;simp[hs,h1,h2,h3,ix,NP,c2,c3,m1,m2,h135,e,FD]
 ·simp[hs]
theorem loop70_2 (p:Pg) (bd n:Int) (hfl:p.fs.length<1000000000) (hcd:∀F∈p.fs,F.2.length<1000000000) (s0:St) (h0:hd [1,2,5,8] [2] s0=some ⟨E8 p bd n++[(8,.dat (N (0:Nat)))],[((3,0),pbx p)]⟩):
  Ev (zga7 (exec K l70_2) s0) (oQ (fun q=>q.1=.exit 2∧hd [5] [] q.2=some ⟨[(5,.dat (N n))],[((3,0),pbx p)]⟩) (fun _ q=>q.1=.ret∧endK [.t 4] false 0 q=some (.dat (.bool false),[])) (scan (lnG p bd) p.fs 0)):=by
 refine zzb7 (live:=[1,2,5,8]) (drop:=[2]) p.fs (lnG p bd) (by omega) (fun k=>⟨E8 p bd n++[(8,.dat (N k))],[((3,0),pbx p)]⟩) _ _
  (fun i F s h1 h2 h3 ix hs=>?_) (fun s hs=>?_) s0 h0
 ·simp[hs,h1,h2,h3];simp only[zaa7];refine (loop70_1 p bd n hfl hcd i F h1 _ (by simp)).mono ?_;rintro⟨y,s⟩ hq;unfold lnG;cases c:scan (lnF p bd) F.2 0<;>rw[c]at hq<;>obtain⟨rfl,hq⟩:=hq
  ·simp[hq,ix]
  ·simp[hq]
 ·simp[hs]
def lonB (p:Pg) (bd:Int):Bool:=if (scan (lnG p bd) p.fs 0).isSome then false else decide (nL p bd p.ts.length≤5)
theorem run70 (p:Pg) (bd:Int) (hfl:p.fs.length<1000000000) (hcd:∀F∈p.fs,F.2.length<1000000000) (htl:p.ts.length<1000000000):K 70 [.dat (PD p),.dat (N bd)] []=some (.dat (.bool (lonB p bd)),[]):=by
 refine ce rfl ?_;simp;simp only[zaa7];refine (loop70_0 p bd hfl hcd htl _ (by simp[nL])).mono ?_;rintro⟨y,s⟩ ⟨rfl,hq⟩;unfold lonB;generalize nL p bd p.ts.length=n at *
 simp[hq];simp only[zaa7];refine (loop70_2 p bd n hfl hcd _ (by simp)).mono ?_;rintro⟨y,s⟩ hq;cases c:scan (lnG p bd) p.fs 0<;>rw[c]at hq<;>obtain⟨rfl,hq⟩:=hq<;>simp[hq]
def smF (i:Nat) (F:Str×List In):Option Unit:=if 12<F.2.length then some () else none
theorem smF_scan:∀(l:List (Str×List In)) (i:Nat),scan smF l i=none→∀F∈l,F.2.length≤12
 |[],i,h,F,hF=>by cases hF
 |G::r,i,h,F,hF=>by
  simp only[scan,smF]at h;by_cases c:12<G.2.length
  ·rw[if_pos c]at h;cases h
  ·rw[if_neg c]at h;rcases List.mem_cons.1 hF with rfl|hF
   ·omega
   ·exact smF_scan r _ h F hF
theorem run32 (p:Pg) (bd:Int):∃b,K 32 [.dat (PD p),.dat (N bd)] []=some (.dat (.bool b),[])∧(b=true→p.fs.length≤4∧p.ts.length≤4∧p.vs.length≤8∧p.ms.length≤4∧p.cs.length≤4∧∀F∈p.fs,F.2.length≤12):=by
 by_cases c1:4<p.fs.length
 ·have c1':(4:Int)<p.fs.length:=by omega
  exact⟨false,ce rfl (by simp[c1']),by simp⟩
 have c1':¬(4:Int)<p.fs.length:=by omega
 by_cases c2:4<p.ts.length
 ·have c2':(4:Int)<p.ts.length:=by omega
  exact⟨false,ce rfl (by simp[c1',c2']),by simp⟩
 have c2':¬(4:Int)<p.ts.length:=by omega
 by_cases c3:8<bd
 ·exact⟨false,ce rfl (by simp[c1',c2',c3]),by simp⟩
 by_cases c4:8<p.vs.length
 ·have c4':(8:Int)<p.vs.length:=by omega
  exact⟨false,ce rfl (by simp[c1',c2',c3,c4']),by simp⟩
 have c4':¬(8:Int)<p.vs.length:=by omega
 by_cases c5:4<p.ms.length
 ·have c5':(4:Int)<p.ms.length:=by omega
  exact⟨false,ce rfl (by simp[c1',c2',c3,c4',c5']),by simp⟩
 have c5':¬(4:Int)<p.ms.length:=by omega
 by_cases c6:4<p.cs.length
 ·have c6':(4:Int)<p.cs.length:=by omega
  exact⟨false,ce rfl (by simp[c1',c2',c3,c4',c5',c6']),by simp⟩
 have c6':¬(4:Int)<p.cs.length:=by omega
 cases c7:scan smF p.fs 0 with
 |some u=>
  refine⟨false,ce rfl ?_,by simp⟩;simp[c1',c2',c3,c4',c5',c6'];simp only[zaa7]
  refine (zzb7 (live:=[1,2,5]) (drop:=[]) p.fs smF (by omega) (fun k=>⟨[(1,.dat (N bd)),(2,.ref ((3,0),0,0) 0),(5,.dat (N k))],[((3,0),pbx p)]⟩)
   (fun q=>q.1=.exit 0) (fun _ q=>q.1=.ret∧endK [.t 4] false 0 q=some (.dat (.bool false),[]))
   (fun i F s h1 h2 h3 ix hs=>?_) (fun s hs=>?_) _ (by simp)).mono ?_
  ·obtain⟨nm,l⟩:=F;unfold smF;by_cases c:12<l.length
   ·have c':(12:Int)<l.length:=by omega
    simp[hs,h1,h2,h3,ix,FD,c,c']
   ·have c':¬(12:Int)<l.length:=by omega
    simp[hs,h1,h2,h3,ix,FD,c,c']
  ·simp[hs]
  ·rintro⟨y,s⟩ hq;rw[c7]at hq;obtain⟨rfl,hq⟩:=hq;simp[hq]
 |none=>
  have hcd:=smF_scan _ _ c7;have h70:=run70 p bd (by omega) (fun F hF=>by have:=hcd F hF;omega) (by omega);refine⟨lonB p bd,ce rfl ?_,fun _=>⟨by omega,by omega,by omega,by omega,by omega,hcd⟩⟩;simp[c1',c2',c3,c4',c5',c6'];simp only[zaa7]
  refine (zzb7 (live:=[1,2,5]) (drop:=[]) p.fs smF (by omega) (fun k=>⟨[(1,.dat (N bd)),(2,.ref ((3,0),0,0) 0),(5,.dat (N k))],[((3,0),pbx p)]⟩)
   (fun q=>q.1=.exit 0∧hd [1,2] [] q.2=some ⟨[(1,.dat (N bd)),(2,.ref ((3,0),0,0) 0)],[((3,0),pbx p)]⟩) (fun _ q=>q.1=.ret∧endK [.t 4] false 0 q=some (.dat (.bool false),[]))
   (fun i F s h1 h2 h3 ix hs=>?_) (fun s hs=>?_) _ (by simp)).mono ?_
  ·obtain⟨nm,l⟩:=F;unfold smF;by_cases c:12<l.length
   ·have c':(12:Int)<l.length:=by omega
    simp[hs,h1,h2,h3,ix,FD,c,c']
   ·have c':¬(12:Int)<l.length:=by omega
    simp[hs,h1,h2,h3,ix,FD,c,c']
  ·simp[hs]
  ·rintro⟨y,s⟩ hq;rw[c7]at hq;obtain⟨rfl,hq⟩:=hq;simp[hq,h70]
end Go.Am.E

set_option maxRecDepth 10000
set_option maxHeartbeats 8000000
namespace Go.Am.E
open Go.Proofs Go.Ex Go.Rc
attribute [local simp] MsD
abbrev WDl (p:Pg) (bd:Int) (l:List (Int×Int)):List Dat:=PDl p++[N bd,.sl (l.map NP)]
theorem run9 (p:Pg) (bd:Int) (l:List (Int×Int)):∃b,K 9 [.dat (.agg (WDl p bd l))] []=some (.dat (.bool b),[])∧(b=true→Fit p∧l.length≤14):=by
 obtain⟨b,h1,h2⟩:=run32 p bd;cases b
 ·refine⟨false,ce rfl ?_,by simp⟩;simp[h1]
 ·obtain⟨a1,a2,a3,a4,a5,a6⟩:=h2 rfl;have hf:Fit p:=⟨by omega,by omega,by omega,by omega,fun F hF=>by have:=a6 F hF;omega⟩;by_cases c:l.length≤14
  ·have c':(l.length:Int)≤14:=by omega
   exact⟨true,ce rfl (by simp[h1,c']),fun _=>⟨hf,c⟩⟩
  ·have c':¬(l.length:Int)≤14:=by omega
   exact⟨false,ce rfl (by simp[h1,c']),by simp⟩
theorem run11:K 11 [] []=some (.dat (.bool true),[]):=zjf7 rfl rfl
def plM (l:List Msg) (e:Int):Nat:=match ixM e l with
 |some k=>k+1
 |none=>0
end Go.Am.E

set_option maxRecDepth 10000
set_option maxHeartbeats 8000000
namespace Go.Am.E
open Go.Proofs Go.Ex Go.Rc
attribute [local simp] same_d same_r same_p same_n same_c ztc7 zuc7 zsc7 pairK zyc7 chgOf slim sameAt meets updT
def rdsK (k:Int):Bool:=decide (k=1)||(decide (k=8)||(decide (k=5)||decide (k=6)))
def wroK (k:Int):Bool:=decide (k=2)||(decide (k=3)||(decide (k=4)||decide (k=5)))
def ordK (k:Int):Bool:=decide (k=1)||(decide (k=2)||(decide (k=3)||(decide (k=5)||(decide (k=6)||decide (k=8)))))
def wiB (n m:Int):Bool:=decide (0≤n)&&decide (n<m)
def vaB (n:Int):Bool:=decide (-2147483648≤n)&&decide (n≤2147483647)
theorem run63 (k:Int):K 63 [.dat (N k)] []=some (.dat (.bool (rdsK k)),[]):=ce rfl (by
 unfold rdsK;by_cases a:k=1
 ·simp[a]
 by_cases b:k=8
 ·simp[a,b]
 by_cases c:k=5
 ·simp[a,b,c]
 ·simp[a,b,c])
theorem run132 (k:Int):K 132 [.dat (N k)] []=some (.dat (.bool (wroK k)),[]):=ce rfl (by
 unfold wroK;by_cases a:k=2
 ·simp[a]
 by_cases b:k=3
 ·simp[a,b]
 by_cases c:k=4
 ·simp[a,b,c]
 ·simp[a,b,c])
theorem run130 (k:Int):K 130 [.dat (N k)] []=some (.dat (.bool (ordK k)),[]):=ce rfl (by
 unfold ordK;by_cases a:k=1
 ·simp[a]
 by_cases b:k=2
 ·simp[a,b]
 by_cases c:k=3
 ·simp[a,b,c]
 by_cases d:k=5
 ·simp[a,b,c,d]
 by_cases e:k=6
 ·simp[a,b,c,d,e]
 ·simp[a,b,c,d,e])
theorem run131 (n:Int):K 131 [.dat (N n)] []=some (.dat (.bool (vaB n)),[]):=ce rfl (by
 unfold vaB;by_cases a : -2147483648≤n<;>simp[a])
theorem run133 (n m:Int):K 133 [.dat (N n),.dat (N m)] []=some (.dat (.bool (wiB n m)),[]):=ce rfl (by
 unfold wiB;by_cases a:0≤n<;>simp[a])
theorem run126 (n:Int):K 126 [.dat (N n)] []=some (.dat (.bool (decide (n<0))),[]):=ce rfl (by simp)
def obE (e:Evt):Bool:=if e.kind=7 then decide (e.obj=0) else if e.kind=9∨e.kind=10∨e.kind=11 then wiB e.obj 4 else if e.kind=12∨e.kind=13∨e.kind=14∨e.kind=15 then wiB e.obj 4
 else if e.kind=16∨e.kind=17 then decide (0≤e.obj) else wiB e.obj 8
theorem run127 (e:Evt):K 127 [.dat (ED e)] []=some (.dat (.bool (obE e)),[]):=by
 have h:=fun n m=>run133 n m
 obtain⟨ag,idx,kind,obj,mux,ent,ord,rd,wr⟩:=e;refine ce rfl ?_;unfold obE;dsimp only;by_cases a7:kind=7
 ·simp[a7]
 by_cases a9:kind=9
 ·simp[a9,h]
 by_cases a10:kind=10
 ·simp[a10,h]
 by_cases a11:kind=11
 ·simp[a11,h]
 by_cases a12:kind=12
 ·simp[a12,h]
 by_cases a13:kind=13
 ·simp[a13,h]
 by_cases a14:kind=14
 ·simp[a14,h]
 by_cases a15:kind=15
 ·simp[a15,h]
 by_cases a16:kind=16
 ·simp[a16]
 by_cases a17:kind=17
 ·simp[a17]
 simp[a7,a9,a10,a11,a12,a13,a14,a15,a16,a17,h]
def rsE (e:Evt):Bool:=if e.kind=11∨e.kind=14 then wiB e.rd 2 else if e.kind=15 then decide (0≤e.rd) else vaB e.rd&&(rdsK e.kind||decide (e.rd=0))
theorem run128 (e:Evt):K 128 [.dat (ED e)] []=some (.dat (.bool (rsE e)),[]):=by
 have h:=fun n m=>run133 n m
 have h1:=run131 e.rd;have h2:=run63 e.kind;obtain⟨ag,idx,kind,obj,mux,ent,ord,rd,wr⟩:=e;dsimp only at h1 h2;refine ce rfl ?_;unfold rsE;dsimp only;by_cases a11:kind=11
 ·simp[a11,h]
 by_cases a14:kind=14
 ·simp[a14,h]
 by_cases a15:kind=15
 ·simp[a15]
 generalize vaB rd=v at *
 generalize rdsK kind=r at *
 cases v
 ·simp[a11,a14,a15,h1]
 cases r
 ·simp[a11,a14,a15,h1,h2]
 ·simp[a11,a14,a15,h1,h2]
def enE (e:Evt):Bool:=if e.kind=1∨e.kind=8 then decide (-1≤e.ent) else if e.kind=3∨e.kind=4 then decide (0≤e.ent) else decide (e.ent = -1)
theorem run129 (e:Evt):K 129 [.dat (ED e)] []=some (.dat (.bool (enE e)),[]):=by
 obtain⟨ag,idx,kind,obj,mux,ent,ord,rd,wr⟩:=e;refine ce rfl ?_;unfold enE;dsimp only;by_cases a1:kind=1
 ·simp[a1]
 by_cases a8:kind=8
 ·simp[a8]
 by_cases a3:kind=3
 ·simp[a3]
 by_cases a4:kind=4
 ·simp[a4]
 simp[a1,a8,a3,a4]
def vaE (e:Evt):Bool:=
 if e.kind<1∨17<e.kind then false
 else if decide (e.ag<0)≠decide (e.kind=4) then false
 else if e.idx<0 then false
 else if obE e=false then false
 else if rsE e=false then false
 else if enE e=false then false
 else if e.ord<0∨2<e.ord then false
 else if ordK e.kind=false∧e.ord≠0 then false
 else if vaB e.wr=false then false
 else if wroK e.kind=false∧e.wr≠0 then false
 else if e.kind=12 then wiB e.mux 4
 else decide (e.mux = -1)
theorem run62 (e:Evt):K 62 [.dat (ED e)] []=some (.dat (.bool (vaE e)),[]):=by
 have h126:=run126 e.ag;have h127:=run127 e;have h128:=run128 e;have h129:=run129 e;have h130:=run130 e.kind;have h131:=run131 e.wr;have h132:=run132 e.kind;have h133:=run133 e.mux 4;unfold vaE;generalize obE e=ob at *
 generalize rsE e=rs at *
 generalize enE e=en at *
 obtain⟨ag,idx,kind,obj,mux,ent,ord,rd,wr⟩:=e;dsimp only at *
 generalize ordK kind=ok at *
 generalize vaB wr=va at *
 generalize wroK kind=wk at *
 generalize wiB mux 4=wi at *
 generalize hF:decide (ag<0)=F at *
 refine ce rfl ?_;by_cases a1:kind<1
 ·simp[a1]
 by_cases a2:17<kind
 ·simp[a1,a2]
 by_cases a3:kind=4
 ·cases F
  ·simp[a3,h126]
  ·subst a3;by_cases a4:idx<0
   ·simp[h126,a4]
   cases ob
   ·simp[h126,a4,h127]
   cases rs
   ·simp[h126,a4,h127,h128]
   cases en
   ·simp[h126,a4,h127,h128,h129]
   by_cases a5:ord<0
   ·simp[h126,a4,h127,h128,h129,a5]
   by_cases a6:2<ord
   ·simp[h126,a4,h127,h128,h129,a5,a6]
   by_cases a7:ok=false∧ord≠0
   ·obtain⟨rfl,a7⟩:=a7;simp[h126,a4,h127,h128,h129,a5,a6,h130,a7]
   have b7:ok=true∨(ok=false∧ord=0):=by cases ok<;>simp at a7 ⊢;exact a7
   cases va
   ·rcases b7 with rfl|⟨rfl,rfl⟩<;>simp[h126,a4,h127,h128,h129,a5,a6,h130,h131]
   by_cases a8:wk=false∧wr≠0
   ·obtain⟨rfl,a8⟩:=a8;rcases b7 with rfl|⟨rfl,rfl⟩<;>simp[h126,a4,h127,h128,h129,a5,a6,h130,h131,h132,a8]
   have b8:wk=true∨(wk=false∧wr=0):=by cases wk<;>simp at a8 ⊢;exact a8
   rcases b7 with rfl|⟨rfl,rfl⟩<;>rcases b8 with rfl|⟨rfl,rfl⟩<;>simp[h126,a4,h127,h128,h129,a5,a6,h130,h131,h132]
 ·cases F
  ·by_cases a4:idx<0
   ·simp[a1,a2,a3,h126,a4]
   cases ob
   ·simp[a1,a2,a3,h126,a4,h127]
   cases rs
   ·simp[a1,a2,a3,h126,a4,h127,h128]
   cases en
   ·simp[a1,a2,a3,h126,a4,h127,h128,h129]
   by_cases a5:ord<0
   ·simp[a1,a2,a3,h126,a4,h127,h128,h129,a5]
   by_cases a6:2<ord
   ·simp[a1,a2,a3,h126,a4,h127,h128,h129,a5,a6]
   by_cases a7:ok=false∧ord≠0
   ·obtain⟨rfl,a7⟩:=a7;simp[a1,a2,a3,h126,a4,h127,h128,h129,a5,a6,h130,a7]
   have b7:ok=true∨(ok=false∧ord=0):=by cases ok<;>simp at a7 ⊢;exact a7
   cases va
   ·rcases b7 with rfl|⟨rfl,rfl⟩<;>simp[a1,a2,a3,h126,a4,h127,h128,h129,a5,a6,h130,h131]
   by_cases a8:wk=false∧wr≠0
   ·obtain⟨rfl,a8⟩:=a8;rcases b7 with rfl|⟨rfl,rfl⟩<;>simp[a1,a2,a3,h126,a4,h127,h128,h129,a5,a6,h130,h131,h132,a8]
   have b8:wk=true∨(wk=false∧wr=0):=by cases wk<;>simp at a8 ⊢;exact a8
   by_cases a9:kind=12
   ·subst a9;rcases b7 with rfl|⟨rfl,rfl⟩<;>rcases b8 with rfl|⟨rfl,rfl⟩<;>simp[a1,a2,a3,h126,a4,h127,h128,h129,a5,a6,h130,h131,h132,h133]
   ·rcases b7 with rfl|⟨rfl,rfl⟩<;>rcases b8 with rfl|⟨rfl,rfl⟩<;>simp[a1,a2,a3,h126,a4,h127,h128,h129,a5,a6,h130,h131,h132,a9]
  ·simp[a1,a2,a3,h126]
def wrE (e:Evt):Bool:=vaE e&&(decide (e.kind=2)||(decide (e.kind=5)||decide (e.kind=4)))
def rdE' (e:Evt):Bool:=vaE e&&rdsK e.kind
theorem run24 (e:Evt):K 24 [.dat (ED e)] []=some (.dat (.bool (wrE e)),[]):=by
 have h:=run62 e;unfold wrE;generalize vaE e=v at *
 obtain⟨ag,idx,kind,obj,mux,ent,ord,rd,wr⟩:=e;refine ce rfl ?_;cases v
 ·simp[h]
 by_cases a:kind=2
 ·subst a;simp[h]
 by_cases b:kind=5
 ·subst b;simp[h]
 ·simp[h,a,b]
theorem run25 (e:Evt):K 25 [.dat (ED e)] []=some (.dat (.bool (rdE' e)),[]):=by
 have h:=run62 e;have h2:=run63 e.kind;unfold rdE';generalize vaE e=v at *
 generalize rdsK e.kind=r at *
 obtain⟨ag,idx,kind,obj,mux,ent,ord,rd,wr⟩:=e;dsimp only at h2;refine ce rfl ?_;cases v
 ·simp[h]
 ·simp[h,h2]
end Go.Am.E

set_option maxRecDepth 10000
set_option maxHeartbeats 16000000
namespace Go.Am.E
open Go.Proofs Go.Ex Go.Rc
attribute [local simp] same_d same_r same_p same_n same_c ztc7 zuc7 zsc7 pairK zyc7 chgOf slim sameAt meets updT
def Fol (s t:Ra):Prop:=∀(i:Nat) (a:Th),s.th[i]?=some a→∃(j:Nat) (w w':List Int),fndT t.th a.id=some j∧t.vs[j]?=some w'∧s.vs[i]?=some w∧w'.length=w.length∧w.length≤t.ms.length∧∀d x y,w[d]?=some x→w'[d]?=some y→plM (gt2 t.ms d) x≤plM (gt2 t.ms d) y
abbrev E22 (n k:Nat) (th:List Th):Env:=[(2,.ref ((3,0),0,0) 0),(3,.ref ((4,0),0,0) 0),(11,.dat (.sl (th.map TD))),(12,.dat (N n)),(13,.dat (N k))]
abbrev X22 (s t:Ra):zsa7:=[((3,0),rbx s),((4,0),rbx t)]
end Go.Am.E

set_option maxRecDepth 10000
set_option maxHeartbeats 16000000
namespace Go.Am.E
open Go.Proofs Go.Ex Go.Rc
attribute [local simp] same_d same_r same_p same_n same_c ztc7 zuc7 zsc7 pairK zyc7 chgOf slim sameAt meets updT
structure Mon (p:Pg) (s:Ra) (ag:Int) (s':Ra) (e:Evt) (r:Int) (j:Nat) (w:List Int):Prop where
 ms:s'.ms.length=p.vs.length
 vs:s'.vs.length=s'.th.length
 fo:Fol s s'
 ev:s'.ev=s.ev++[e]
 rl:s.rf.length=s.ev.length
 rf:s'.rf=s.rf++[r]
 fn:fndT s'.th ag=some j
 hw:s'.vs[j]?=some w
 wl:w.length=s'.ms.length
 ob:rdsK e.kind=true∨e.kind=2∨e.kind=5→∃o:Nat,e.obj=o∧o<s'.ms.length∧(e.kind=2∨e.kind=5→w[o]?=some (s.ev.length:Int))∧(rdsK e.kind=true→∀x,w[o]?=some x→plM (gt2 s'.ms o) r≤plM (gt2 s'.ms o) x)
 nk:e.kind≠4
abbrev wbx (p:Pg) (bd:Int) (l:List (Int×Int)):TObj:=.plain (.box ((WDl p bd l).map AVal.dat))
abbrev E5 (l:List (Int×Int)) (k:Nat):Env:=[(1,.ref ((2,0),0,0) 0),(3,.ref ((4,0),0,0) 0),(29,.dat (.sl (l.map NP))),(30,.dat (N l.length)),(31,.dat (N k))]
abbrev X5 (p:Pg) (bd:Int) (l:List (Int×Int)) (s:Ra):zsa7:=[((2,0),wbx p bd l),((4,0),rbx s)]
end Go.Am.E

set_option maxHeartbeats 4000000
namespace Go.Am.E
open Go.Proofs Go.Ex Go.Rc
def fx {α:Type} (f:α→Int):List α→Int→Option Nat
 |[],_=>none
 |a::r,e=>if f a=e then some 0 else (fx f r e).map (·+1)
theorem ixM_fx (e:Int):∀l:List Msg,ixM e l=fx Msg.ev l e
 |[]=>rfl
 |m::r=>by simp only[ixM,fx,ixM_fx e r]
theorem fx_some {α:Type} {f:α→Int} {l:List α} {e:Int} {k:Nat} (h:fx f l e=some k):∃a,l[k]?=some a∧f a=e:=by
 induction l generalizing k with
 |nil=>cases h
 |cons a r ih=>
  simp only[fx]at h;split at h
  ·rename_i h1;cases h;exact⟨a,rfl,h1⟩
  ·obtain⟨j,h1,h2⟩:=Option.map_eq_some_iff.1 h;subst h2;obtain⟨b,b1,b2⟩:=ih h1;exact⟨b,by simpa using b1,b2⟩
theorem fx_none {α:Type} {f:α→Int} {l:List α} {e:Int}:fx f l e=none↔∀a∈l,f a≠e:=by
 induction l with
 |nil=>simp[fx]
 |cons a r ih=>
  simp only[fx];by_cases h:f a=e
  ·simp[h]
  ·simp[h,ih]
theorem fx_get {α:Type} {f:α→Int} {l:List α} {k:Nat} {a:α} (h:l[k]?=some a) (hn:∀i b,i<k→l[i]?=some b→f b≠f a):fx f l (f a)=some k:=by
 induction l generalizing k with
 |nil=>simp at h
 |cons b r ih=>
  cases k with
  |zero=>simp at h;subst h;simp[fx]
  |succ k=>
   have h0:=hn 0 b (by omega) rfl;simp only[fx,if_neg h0];rw[ih (by simpa using h) (fun i c hi hc=>hn (i+1) c (by omega) (by simpa using hc))];rfl
theorem fx_ins_old {α:Type} {f:α→Int} {a:α} {e:Int} (h:f a≠e):∀(l:List α) (p:Nat),fx f (ins l p a) e=(fx f l e).map fun k=>if k<p then k else k+1
 |[],p=>by simp[ins,fx,h]
 |b::r,0=>by
  show fx f (a::b::r) e=_
  rw[fx,if_neg h];simp
 |b::r,p+1=>by
  have ih:=fx_ins_old h r p
  show fx f (b::ins r p a) e=_
  simp only[fx];split
  ·simp
  ·rw[ih];cases fx f r e with
   |none=>rfl
   |some k=>
    simp only[Option.map_some,Option.some.injEq];by_cases hk:k<p
    ·simp[hk]
    ·simp[hk]
theorem fx_ins_new {α:Type} {f:α→Int} {a:α}:∀{l:List α} {p:Nat},p≤l.length→(∀b∈l,f b≠f a)→fx f (ins l p a) (f a)=some p
 |l,0,_,_=>by
  show fx f (a::l) (f a)=_
  simp[fx]
 |[],p+1,h,_=>by simp at h
 |b::r,p+1,h,hn=>by
  show fx f (b::ins r p a) (f a)=_
  have h0:=hn b (by simp);simp only[fx,if_neg h0];rw[fx_ins_new (by simpa using h) (fun c hc=>hn c (by simp[hc]))];rfl
theorem ins_old {α:Type} (a:α):∀(l:List α) (p i:Nat),p≤l.length→(ins l p a)[if i<p then i else i+1]?=l[i]?
 |l,0,i,_=>by simp[ins]
 |[],p+1,i,h=>by simp at h
 |b::r,p+1,i,h=>by
  show (b::ins r p a)[_]?=_
  cases i with
  |zero=>simp
  |succ i=>
   have:=ins_old a r p i (by simpa using h);by_cases hi:i<p
   ·rw[if_pos hi]at this;simp[hi,this]
   ·rw[if_neg hi]at this;simp[hi,this]
theorem plM_fx (l:List Msg) (e:Int):plM l e=match fx Msg.ev l e with|some k=>k+1|none=>0:=by unfold plM;rw[ixM_fx];try (cases fx Msg.ev l e<;>rfl)
theorem plM_old {l:List Msg} {p:Nat} {m:Msg} {e:Int} (h:m.ev≠e):plM (ins l p m) e=if plM l e≤p then plM l e else plM l e+1:=by
 rw[plM_fx,plM_fx,fx_ins_old h];cases fx Msg.ev l e with
 |none=>simp
 |some k=>
  simp only[Option.map_some];by_cases hk:k<p
  ·simp[hk];omega
  ·simp[hk];omega
theorem plM_new {l:List Msg} {p:Nat} {m:Msg} (hp:p≤l.length) (h:∀b∈l,b.ev≠m.ev):plM (ins l p m) m.ev=p+1:=by
 rw[plM_fx,fx_ins_new hp h]
theorem pos_pl {l:List Msg} (hl:∀m∈l,0≤m.ev) {e:Int} (h:0≤posM l e):posM l e=plM l e:=by
 unfold posM at h ⊢;rw[plM_fx,ixM_fx]at *
 split
 ·rename_i he;rw[fx_none.2 (fun a ha=>by have:=hl a ha;omega)];rfl
 ·rename_i he;rw[if_neg he]at h;cases hx:fx Msg.ev l e with
  |none=>rw[hx]at h;simp at h
  |some k=>simp
structure Gd (ms:List (List Msg)) (v:List Int):Prop where
 len:v.length=ms.length
 pos:∀d x,v[d]?=some x→0≤posM (gt2 ms d) x
theorem gdV_gd {s:Ra} {v:List Int} (h:gdV s v=true):Gd s.ms v:=by
 refine⟨gdV_len h,fun d x hx=>?_⟩;have:=gdV_pos h (x:=d) (by have:=(zca7 hx).2.2;have:=gdV_len h;omega);rw[hx]at this;exact this
def Vle (ms:List (List Msg)) (w w':List Int):Prop:=∀d x y,w[d]?=some x→w'[d]?=some y→plM (gt2 ms d) x≤plM (gt2 ms d) y
theorem Vle.rfl' (ms:List (List Msg)) (w:List Int):Vle ms w w:=fun d x y h1 h2=>by
 rw[h1]at h2;cases h2;exact Nat.le_refl _
def Ev0 (ms:List (List Msg)):Prop:=∀d,∀m∈gt2 ms d,0≤m.ev
theorem jn_gd {ms:List (List Msg)} {v o:List Int} (hv:Gd ms v) (ho:Gd ms o):Gd ms (jnV ms v o 0):=by
 refine⟨by rw[zcb7];exact hv.len,fun d x hx=>?_⟩;have hd:=(zca7 hx).2.2;rw[zcb7]at hd;have h1:=List.getElem?_eq_getElem hd;have h2:=List.getElem?_eq_getElem (show d<o.length by rw[ho.len,←hv.len];exact hd);have hj:=jnV_get ms v o 0 d _ _ h1 h2;rw[hj]at hx;cases hx;rw[Nat.zero_add];split
 ·exact ho.pos d _ h2
 ·exact hv.pos d _ h1
theorem jn_le {ms:List (List Msg)} {v o:List Int} (h0:Ev0 ms) (hv:Gd ms v) (ho:Gd ms o):Vle ms v (jnV ms v o 0):=by
 intro d x y hx hy;have hd:=(zca7 hx).2.2;have h2:=List.getElem?_eq_getElem (show d<o.length by rw[ho.len,←hv.len];exact hd);have hj:=jnV_get ms v o 0 d _ _ hx h2;rw[hj]at hy;cases hy;rw[Nat.zero_add];have p1:=pos_pl (h0 d) (hv.pos d _ hx);have p2:=pos_pl (h0 d) (ho.pos d _ h2);split
 ·omega
 ·exact Nat.le_refl _
theorem Vle.trans {ms:List (List Msg)} {a b c:List Int} (h1:Vle ms a b) (h2:Vle ms b c) (hl:a.length=b.length):Vle ms a c:=fun d x y hx hy=>by
 have hb:=List.getElem?_eq_getElem (show d<b.length by rw[←hl];exact (zca7 hx).2.2);exact Nat.le_trans (h1 d x _ hx hb) (h2 d _ y hb hy)
end Go.Am.E

set_option maxHeartbeats 8000000
namespace Go.Am.E
open Go.Proofs Go.Ex Go.Rc
def Rdf (p:Pg) (s:Ra) (o:Nat) (r d:Int):Prop:=(r = -1∧d=((p.vs[o]?).map (·.2)).getD 0)∨∃m∈gt2 s.ms o,r=m.ev∧d=m.val
structure Rdo (p:Pg) (s:Ra) (o:Nat) (W:List Int) (c:Nat) (w':List Int) (r d:Int):Prop where
 gd:Gd s.ms w'
 le:Vle s.ms W w'
 rf:Rdf p s o r d
 pl:plM (gt2 s.ms o) r=c
 up:∀y,w'[o]?=some y→c≤plM (gt2 s.ms o) y
def Nup (s:Ra) (o pl:Nat):Prop:=∀m e,(gt2 s.ms o)[pl]?=some m→s.ev[m.ev.toNat]?=some e→e.kind≠5
structure Afd (s:Ra) (o:Nat) (W:List Int):Prop where
 lt:o<s.ms.length
 e0:Ev0 s.ms
 ds:∀(i j:Nat) (a b:Msg),(gt2 s.ms o)[i]?=some a→(gt2 s.ms o)[j]?=some b→i<j→a.ev≠b.ev
 gw:Gd s.ms W
 gm:∀m∈gt2 s.ms o,Gd s.ms m.vw
theorem gd_set {ms:List (List Msg)} {w:List Int} (h:Gd ms w) {o:Nat} {e:Int} (he:0≤posM (gt2 ms o) e):Gd ms (w.set o e):=by
 refine⟨by simpa using h.len,fun d x hx=>?_⟩;by_cases hd:d=o
 ·subst hd;have hl:=(zca7 hx).2.2;rw[List.length_set]at hl;rw[List.getElem?_set_self hl]at hx;cases hx;exact he
 ·rw[List.getElem?_set_ne (Ne.symm hd)]at hx;exact h.pos d x hx
theorem le_set {ms:List (List Msg)} {w:List Int} {o:Nat} {e:Int} (he:∀x,w[o]?=some x→plM (gt2 ms o) x≤plM (gt2 ms o) e):Vle ms w (w.set o e):=by
 intro d x y hx hy;by_cases hd:d=o
 ·subst hd;rw[List.getElem?_set_self (zca7 hx).2.2]at hy;cases hy;exact he x hx
 ·rw[List.getElem?_set_ne (Ne.symm hd),hx]at hy;cases hy;exact Nat.le_refl _
def rdV (x:Stq) (o:Nat) (W:List Int) (c:Nat):List Int:=match c with
 |0=>W.set o (-1)
 |c+1=>match (gt2 x.s.ms o)[c]? with
  |none=>W
  |some m=>if x.e.ord=2 then jnV x.s.ms (W.set o m.ev) m.vw 0 else W.set o m.ev
theorem rd_do {x:Stq} {k o c:Nat} {W:List Int} (h:Afd x.s o W) (hc:c≤(gt2 x.s.ms o).length) (hfl:∀y,W[o]?=some y→plM (gt2 x.s.ms o) y≤c):
  ∃r d,rdX x k o W c={ setV x k (rdV x o W c) with e:={ x.e with rd:=d },rf:=r }∧Rdo x.p x.s o W c (rdV x o W c) r d:=by
 have hol:o<W.length:=by rw[h.gw.len];exact h.lt
 cases c with
 |zero=>
  have p0:posM (gt2 x.s.ms o) (-1)=0:=rfl;have q0:plM (gt2 x.s.ms o) (-1)=0:=by have:=pos_pl (h.e0 o) (e:=-1) (by rw[p0];exact Int.le_refl _);omega
  exact⟨_,_,rfl,gd_set h.gw (by rw[p0];exact Int.le_refl _),le_set fun y hy=>by have:=hfl y hy;omega,.inl ⟨rfl,rfl⟩,q0,fun _ _=>Nat.zero_le _⟩
 |succ c=>
  obtain⟨m,hm⟩:∃m,(gt2 x.s.ms o)[c]?=some m:=⟨_,List.getElem?_eq_getElem (show c<(gt2 x.s.ms o).length by omega)⟩;have hmm:=List.mem_of_getElem? hm;have hix:fx Msg.ev (gt2 x.s.ms o) m.ev=some c:=fx_get hm fun i b hi hb=>h.ds i c b m hb hm hi
  have q1:plM (gt2 x.s.ms o) m.ev=c+1:=by rw[plM_fx,hix]
  have p1:0≤posM (gt2 x.s.ms o) m.ev:=by
   unfold posM;split
   ·exact Int.le_refl _
   ·rw[ixM_fx,hix];dsimp only;omega
  have g1:=gd_set h.gw p1;have l1:Vle x.s.ms W (W.set o m.ev):=le_set fun y hy=>by have:=hfl y hy;omega
  have e:rdX x k o W (c+1)=rd1 x k o W m:=by simp[rdX,hm]
  rw[e];by_cases ho:x.e.ord=2
  ·have eV:rdV x o W (c+1)=jnV x.s.ms (W.set o m.ev) m.vw 0:=by simp[rdV,hm,ho]
   rw[eV];refine⟨m.ev,m.val,by simp[rd1,ho],jn_gd g1 (h.gm m hmm),l1.trans (jn_le h.e0 g1 (h.gm m hmm)) (by simp),.inr ⟨m,hmm,rfl,rfl⟩,q1,fun y hy=>?_⟩;have:=jn_le h.e0 g1 (h.gm m hmm) o m.ev y (List.getElem?_set_self hol) hy;omega
  ·have eV:rdV x o W (c+1)=W.set o m.ev:=by simp[rdV,hm,ho]
   rw[eV];refine⟨m.ev,m.val,by simp[rd1,ho],g1,l1,.inr ⟨m,hmm,rfl,rfl⟩,q1,fun y hy=>?_⟩;rw[List.getElem?_set_self hol]at hy;cases hy;omega
theorem up_do {x:Stq} {k o c:Nat} {W:List Int} (v:Int) (h:Afd x.s o W) (hc:c≤(gt2 x.s.ms o).length) (hfl:∀y,W[o]?=some y→plM (gt2 x.s.ms o) y≤c):
  ∃w' r d vw,Rdo x.p x.s o W c w' r d∧(upX x k o W c v).s={ x.s with ms:=x.s.ms.set o (ins (gt2 x.s.ms o) c ⟨x.s.ev.length,v,vw⟩),mo:=x.s.mo.set o (ins (gt2 x.s.mo o) c x.s.ev.length),vs:=x.s.vs.set k (w'.set o x.s.ev.length) }∧
   (upX x k o W c v).e={ x.e with kind:=5,rd:=d,wr:=v }∧(upX x k o W c v).rf=r∧(upX x k o W c v).ix=x.ix:=by
 obtain⟨r,d,e,R⟩:=rd_do (x:=kdX x 5) (k:=k) h hc hfl;have R:Rdo x.p x.s o W c (rdV (kdX x 5) o W c) r d:=R;cases c with
 |zero=>
  have e1:(rdX (kdX x 5) k o W 0).rf=r:=by rw[e]
  have e2:(rdX (kdX x 5) k o W 0).e.rd=d:=by rw[e]
  refine⟨_,r,d,owV (rd0 (kdX x 5) k o W) o 0 (W.set o (-1)) v none,R,?_,?_,e1,rfl⟩
  ·simp[upX,wrX,rd0,setV,rdV,List.set_set]
  ·rw[←e2];rfl
 |succ c=>
  obtain⟨m,hm⟩:∃m,(gt2 x.s.ms o)[c]?=some m:=⟨_,List.getElem?_eq_getElem (show c<(gt2 x.s.ms o).length by omega)⟩;have e1:(rdX (kdX x 5) k o W (c+1)).rf=r:=by rw[e]
  have e2:(rdX (kdX x 5) k o W (c+1)).e.rd=d:=by rw[e]
  have e3:rdX (kdX x 5) k o W (c+1)=rd1 (kdX x 5) k o W m:=by simp[rdX,hm]
  rw[e3]at e1 e2;have e4:upX x k o W (c+1) v=reX (wrX (rd1 (kdX x 5) k o W m) k o (c+1) (if x.e.ord=2 then jnV x.s.ms (W.set o m.ev) m.vw 0 else W.set o m.ev) v (some m.vw)) m.val:=by simp[upX,hm]
  have e5:rdV (kdX x 5) o W (c+1)=if x.e.ord=2 then jnV x.s.ms (W.set o m.ev) m.vw 0 else W.set o m.ev:=by simp[rdV,hm]
  rw[e5]at R;rw[e4];refine⟨_,r,d,owV (rd1 (kdX x 5) k o W m) o (c+1) (if x.e.ord=2 then jnV x.s.ms (W.set o m.ev) m.vw 0 else W.set o m.ev) v (some m.vw),R,?_,?_,e1,rfl⟩
  ·simp[wrX,rd1,setV,List.set_set]
  ·rw[←e2];rfl
end Go.Am.E

set_option maxHeartbeats 8000000
namespace Go.Am.E
open Go.Proofs Go.Ex Go.Rc
structure Wro (s:Ra) (W w':List Int) (z:Stq) (o pl:Nat) (vw:List Int):Prop where
 hob:z.e.obj=o
 hlt:o<s.ms.length
 hkd:z.e.kind=2∨z.e.kind=5
 hms:z.s.ms=s.ms.set o (ins (gt2 s.ms o) pl ⟨s.ev.length,z.e.wr,vw⟩)
 hmo:z.s.mo=s.mo.set o (ins (gt2 s.mo o) pl s.ev.length)
 hpl:pl≤(gt2 s.ms o).length
 hnu:Nup s o pl
 hat:w'[o]?=some (s.ev.length:Int)
 hfl:∀y,W[o]?=some y→plM (gt2 s.ms o) y≤pl
 hup:z.e.kind=5→plM (gt2 s.ms o) z.rf=pl
 hok:okV z.e.wr=true
structure Eff (p:Pg) (s:Ra) (k:Nat) (W:List Int) (z:Stq) (w':List Int):Prop where
 th:z.s.th=s.th
 ix:z.ix=k
 vs:z.s.vs=s.vs.set k w'
 wl:w'.length=W.length
 le:Vle z.s.ms W w'
 wr:(z.s.ms=s.ms∧z.s.mo=s.mo∧z.e.kind≠2∧z.e.kind≠5)∨∃o pl vw,Wro s W w' z o pl vw
 rd:rdsK z.e.kind=true→∃o:Nat,z.e.obj=o∧o<s.ms.length∧Rdf p s o z.rf z.e.rd∧(∀y,W[o]?=some y→plM (gt2 s.ms o) y≤plM (gt2 s.ms o) z.rf)∧∀y,w'[o]?=some y→plM (gt2 z.s.ms o) z.rf≤plM (gt2 z.s.ms o) y
 nr:rdsK z.e.kind=false→z.rf = -2
 nk:z.e.kind≠4
def Qk (d:Int):Prop:=rdsK d=false∧d≠2∧d≠5∧d≠4
theorem q0:Qk 0:=⟨rfl,by decide,by decide,by decide⟩
theorem q7:Qk 7:=⟨rfl,by decide,by decide,by decide⟩
theorem q9:Qk 9:=⟨rfl,by decide,by decide,by decide⟩
theorem q10:Qk 10:=⟨rfl,by decide,by decide,by decide⟩
theorem q11:Qk 11:=⟨rfl,by decide,by decide,by decide⟩
theorem q12:Qk 12:=⟨rfl,by decide,by decide,by decide⟩
theorem q13:Qk 13:=⟨rfl,by decide,by decide,by decide⟩
theorem q14:Qk 14:=⟨rfl,by decide,by decide,by decide⟩
theorem q15:Qk 15:=⟨rfl,by decide,by decide,by decide⟩
theorem q16:Qk 16:=⟨rfl,by decide,by decide,by decide⟩
theorem q17:Qk 17:=⟨rfl,by decide,by decide,by decide⟩
theorem Eff.quiet {p:Pg} {s:Ra} {k:Nat} {W w':List Int} {z:Stq} (hq:Qk z.e.kind) (th:z.s.th=s.th) (ix:z.ix=k) (vs:z.s.vs=s.vs.set k w') (wl:w'.length=W.length) (le:Vle s.ms W w') (ms:z.s.ms=s.ms) (mo:z.s.mo=s.mo) (rf:z.rf = -2):Eff p s k W z w':=
 ⟨th,ix,vs,wl,by rw[ms];exact le,.inl ⟨ms,mo,hq.2.1,hq.2.2.1⟩,fun h=>absurd (hq.1.symm.trans h) (by decide),fun _=>rf,hq.2.2.2⟩
theorem eff_mx {p:Pg} {x:Stq} {k:Nat} (i:Nat) {W o:List Int} (hx:x.ix=k) (hr:x.rf = -2) (h0:Ev0 x.s.ms) (gw:Gd x.s.ms W) (go:Gd x.s.ms o):Eff p x.s k W (mxX x k i W o) (jnV x.s.ms W o 0):=by
 have key:∀z:Stq,Qk z.e.kind→z.s.th=x.s.th→z.ix=x.ix→z.s.vs=x.s.vs.set k (jnV x.s.ms W o 0)→z.s.ms=x.s.ms→z.s.mo=x.s.mo→z.rf=x.rf→Eff p x.s k W z (jnV x.s.ms W o 0):=fun z a b c d e f g=>
  Eff.quiet a b (by rw[c,hx]) d (zcb7 ..) (jn_le h0 gw go) e f (by rw[g,hr])
 unfold mxX tkX
 repeat' split
 all_goals exact key _ (by first|exact q9|exact q10|exact q11|exact q12|exact q13|exact q14|exact q15) rfl rfl rfl rfl rfl rfl
theorem eff_sg {p:Pg} {x:Stq} {k:Nat} (c:Nat) {W u:List Int} (hx:x.ix=k) (hr:x.rf = -2) (h0:Ev0 x.s.ms) (gw:Gd x.s.ms W) (go:Gd x.s.ms u):Eff p x.s k W (sgX x k c W u) (jnV x.s.ms W u 0):=by
 have key:∀z:Stq,Qk z.e.kind→z.s.th=x.s.th→z.ix=x.ix→z.s.vs=x.s.vs.set k (jnV x.s.ms W u 0)→z.s.ms=x.s.ms→z.s.mo=x.s.mo→z.rf=x.rf→Eff p x.s k W z (jnV x.s.ms W u 0):=fun z a b c d e f g=>
  Eff.quiet a b (by rw[c,hx]) d (zcb7 ..) (jn_le h0 gw go) e f (by rw[g,hr])
 unfold sgX;split
 all_goals exact key _ (by first|exact q9|exact q10|exact q11|exact q12|exact q13|exact q14|exact q15) rfl rfl rfl rfl rfl rfl
theorem eff_wt {p:Pg} {x:Stq} {k:Nat} (t:Th) (i c:Nat) {W o u:List Int} (hx:x.ix=k) (hr:x.rf = -2) (h0:Ev0 x.s.ms) (gw:Gd x.s.ms W) (go:Gd x.s.ms o) (gu:Gd x.s.ms u):∃w',Eff p x.s k W (wtX x t k i c W o u) w':=by
 have key:∀(z:Stq) (w':List Int),w'.length=W.length→Vle x.s.ms W w'→Qk z.e.kind→z.s.th=x.s.th→z.ix=x.ix→z.s.vs=x.s.vs.set k w'→z.s.ms=x.s.ms→z.s.mo=x.s.mo→z.rf=x.rf→Eff p x.s k W z w':=fun z w' h1 h2 a b c d e f g=>
  Eff.quiet a b (by rw[c,hx]) d h1 h2 e f (by rw[g,hr])
 have l1:=jn_le h0 gw go;have g1:=jn_gd gw go;have l2:=l1.trans (jn_le h0 g1 gu) (by rw[zcb7]);unfold wtX tkX;split
 ·split
  all_goals exact⟨_,key _ _ (by rw[zcb7,zcb7]) l2 (by first|exact q9|exact q10|exact q11|exact q12|exact q13|exact q14|exact q15) rfl rfl rfl rfl rfl rfl⟩
 ·split
  ·exact⟨_,key _ _ (by rw[zcb7]) (jn_le h0 gw gu) (by first|exact q9|exact q10|exact q11|exact q12|exact q13|exact q14|exact q15) rfl rfl rfl rfl rfl rfl⟩
  ·exact⟨_,key _ _ (by rw[zcb7]) l1 (by first|exact q9|exact q10|exact q11|exact q12|exact q13|exact q14|exact q15) rfl rfl rfl rfl rfl rfl⟩
theorem gt2_set {α:Type} {l:List (List α)} {o:Nat} {r:List α} (h:o<l.length):gt2 (l.set o r) o=r:=by
 rw[gt2,List.getElem?_set_self h];rfl
theorem gt2_set_ne {α:Type} {l:List (List α)} {o d:Nat} {r:List α} (h:d≠o):gt2 (l.set o r) d=gt2 l d:=by
 rw[gt2,List.getElem?_set_ne (Ne.symm h)];rfl
theorem wr_le {s:Ra} {W w':List Int} {o pl:Nat} {m:Msg} (hW:Gd s.ms W) (hl:o<s.ms.length) (hm:m.ev=s.ev.length) (fr:∀b∈gt2 s.ms o,b.ev<s.ev.length) (hp:pl≤(gt2 s.ms o).length) (fl:∀y,W[o]?=some y→plM (gt2 s.ms o) y≤pl) (hwl:w'.length=W.length) (hle:Vle s.ms W w'):
  Vle (s.ms.set o (ins (gt2 s.ms o) pl m)) W (w'.set o s.ev.length):=by
 intro d x y hx hy;by_cases hd:d=o
 ·subst hd;rw[List.getElem?_set_self (by rw[hwl];exact (zca7 hx).2.2)]at hy;cases hy;rw[gt2_set hl];have h1:=fl x hx
  have h2:plM (ins (gt2 s.ms d) pl m) s.ev.length=pl+1:=by
   rw[←hm];exact plM_new hp (fun b hb=>by have:=fr b hb;omega)
  rw[h2]
  have h3:x≠m.ev:=by
   intro he;have h4:=hW.pos d x hx;unfold posM at h4;rw[if_neg (by omega),ixM_fx]at h4;cases hf:fx Msg.ev (gt2 s.ms d) x with
   |none=>rw[hf]at h4;simp at h4
   |some j=>
    obtain⟨b,b1,b2⟩:=fx_some hf;have:=fr b (List.mem_of_getElem? b1);omega
  rw[plM_old (Ne.symm h3),if_pos h1];omega
 ·rw[gt2_set_ne hd];rw[List.getElem?_set_ne (Ne.symm hd)]at hy;exact hle d x y hx hy
end Go.Am.E

set_option maxHeartbeats 8000000
namespace Go.Am.E
open Go.Proofs Go.Ex Go.Rc
theorem nup_of {s:Ra} {o k:Nat} (h:updV s o (k+1)=false):Nup s o k:=by
 intro m e hm he h5;unfold updV at h;simp only[hm,he,Option.map_some,Option.getD_some,h5]at h;simp at h
theorem eff_rd {p:Pg} {x:Stq} {k o c:Nat} {W:List Int} (z:Stq) (d:Int) (hd:d=1∨d=6∨d=8) (hx:x.ix=k) (A:Afd x.s o W) (hc:c≤(gt2 x.s.ms o).length) (hfl:∀y,W[o]?=some y→plM (gt2 x.s.ms o) y≤c)
  (h1:z.s=(rdX (kdX (obX x o x.i.r) d) k o W c).s) (h2:z.e=(rdX (kdX (obX x o x.i.r) d) k o W c).e) (h3:z.rf=(rdX (kdX (obX x o x.i.r) d) k o W c).rf) (h4:z.ix=(rdX (kdX (obX x o x.i.r) d) k o W c).ix):∃w',Eff x.p x.s k W z w':=by
 obtain⟨r,dd,e,R⟩:=rd_do (x:=kdX (obX x o x.i.r) d) (k:=k) A hc hfl;rw[e]at h1 h2 h3 h4;have R:Rdo x.p x.s o W c (rdV (kdX (obX x o x.i.r) d) o W c) r dd:=R;generalize rdV (kdX (obX x o x.i.r) d) o W c=w' at *
 have hk:z.e.kind=d:=by rw[h2]
 have ho:z.e.obj=o:=by rw[h2]
 have hms:z.s.ms=x.s.ms:=by rw[h1];rfl
 refine⟨w',by rw[h1];rfl,by rw[h4];exact hx,by rw[h1];rfl,by rw[R.gd.len,A.gw.len],by rw[hms];exact R.le,.inl ⟨hms,by rw[h1];rfl,by omega,by omega⟩,fun _=>⟨o,ho,A.lt,?_,?_,?_⟩,fun h=>?_,by omega⟩
 ·have:z.e.rd=dd:=by rw[h2]
  rw[h3,this];exact R.rf
 ·intro y hy;have:z.rf=r:=by rw[h3]
  rw[this,R.pl];exact hfl y hy
 ·intro y hy;have:z.rf=r:=by rw[h3]
  rw[this,hms,R.pl];exact R.up y hy
 ·rw[hk]at h;rcases hd with rfl|rfl|rfl<;>simp[rdsK]at h
theorem eff_up {p:Pg} {x:Stq} {k o c:Nat} {W:List Int} (z:Stq) (v:Int) (hv:okV v=true) (hx:x.ix=k) (A:Afd x.s o W) (fr:∀b∈gt2 x.s.ms o,b.ev<x.s.ev.length) (hc:c≤(gt2 x.s.ms o).length) (hfl:∀y,W[o]?=some y→plM (gt2 x.s.ms o) y≤c) (hn:Nup x.s o c)
  (h1:z.s=(upX (obX x o x.i.r) k o W c v).s) (h2:z.e=(upX (obX x o x.i.r) k o W c v).e) (h3:z.rf=(upX (obX x o x.i.r) k o W c v).rf) (h4:z.ix=(upX (obX x o x.i.r) k o W c v).ix):∃w',Eff x.p x.s k W z w':=by
 obtain⟨w',r,d,vw,R,e1,e2,e3,e4⟩:=up_do (x:=obX x o x.i.r) (k:=k) v A hc hfl;have R:Rdo x.p x.s o W c w' r d:=R;rw[e1]at h1;rw[e2]at h2;rw[e3]at h3;rw[e4]at h4;have hk:z.e.kind=5:=by rw[h2]
 have ho:z.e.obj=o:=by rw[h2]
 have hw:z.e.wr=v:=by rw[h2]
 have hrd:z.e.rd=d:=by rw[h2]
 have hms:z.s.ms=x.s.ms.set o (ins (gt2 x.s.ms o) c ⟨x.s.ev.length,v,vw⟩):=by rw[h1]
 have hol:o<w'.length:=by rw[R.gd.len];exact A.lt
 have hwl:w'.length=W.length:=by rw[R.gd.len,A.gw.len]
 refine⟨w'.set o x.s.ev.length,by rw[h1],by rw[h4];exact hx,by rw[h1],by rw[List.length_set];exact hwl,by rw[hms];exact wr_le A.gw A.lt rfl fr hc hfl hwl R.le,.inr ⟨o,c,vw,ho,A.lt,.inr hk,by rw[hms,hw],by rw[h1],hc,hn,List.getElem?_set_self hol,hfl,fun _=>by rw[h3];exact R.pl,by rw[hw];exact hv⟩,fun _=>⟨o,ho,A.lt,?_,?_,?_⟩,fun h=>?_,by omega⟩
 ·rw[h3,hrd];exact R.rf
 ·intro y hy;rw[h3,R.pl];exact hfl y hy
 ·intro y hy;rw[List.getElem?_set_self hol]at hy;cases hy;rw[hms,gt2_set A.lt,h3];have h2:plM (ins (gt2 x.s.ms o) c ⟨x.s.ev.length,v,vw⟩) x.s.ev.length=c+1:=plM_new hc (fun b hb=>by have:=fr b hb;dsimp only;omega);rw[h2]
  have hne:(x.s.ev.length:Int)≠r:=by
   have hr:=R.rf;rcases hr with⟨hr,-⟩|⟨m,hm,hr,-⟩
   ·omega
   ·have:=fr m hm;omega
  rw[plM_old hne,R.pl,if_pos (Nat.le_refl _)];omega
 ·rw[hk]at h;simp[rdsK]at h
theorem eff_ac {x:Stq} {t:Th} {k o c:Nat} {W:List Int} {fl:Int} (hx:x.ix=k) (hr:x.rf = -2) (ho:x.i.o=o) (A:Afd x.s o W) (fr:∀b∈gt2 x.s.ms o,b.ev<x.s.ev.length)
  (hop:acc x.i.op=true) (P:posB x.p x.s t x.i fl c=true) (hfl0:0≤fl) (hfl:∀y,W[o]?=some y→(plM (gt2 x.s.ms o) y:Int)=fl) (hb:x.i.op=9∨x.i.op=10→okV (reg t x.i.b)=true) (hc:x.i.op=12→okV (reg t x.i.c)=true):
  ∃w',Eff x.p x.s k W (acX x t k o W c) w':=by
 have hop:=acc_op hop;unfold posB at P;rw[ho,Int.toNat_natCast]at P;unfold acX;dsimp only;rw[ho];by_cases o8:x.i.op=8
 ·rw[if_pos o8]at P;simp only[Bool.and_eq_true,decide_eq_true_eq]at P;rw[if_pos (.inl o8),if_neg (by omega)];exact eff_rd (p:=x.p) _ 1 (.inl rfl) hx A P.2 (fun y hy=>by have:=hfl y hy;omega) rfl rfl rfl rfl
 rw[if_neg o8]at P;by_cases o14:x.i.op=14
 ·rw[if_pos o14]at P;simp only[Bool.and_eq_true,decide_eq_true_eq]at P;rw[if_pos (.inr o14),if_pos o14];exact eff_rd (p:=x.p) _ 8 (.inr (.inr rfl)) hx A P.2.1 (fun y hy=>by have:=hfl y hy;omega) rfl rfl rfl rfl
 rw[if_neg o14]at P;rw[if_neg (by omega)];by_cases o9:x.i.op=9
 ·rw[if_pos o9]at P;simp only[Bool.and_eq_true,decide_eq_true_eq,Bool.not_eq_true']at P;obtain⟨P1,P2,P3⟩:=P;rw[if_pos o9];obtain⟨c',rfl⟩:∃c',c=c'+1:=⟨c-1,by omega⟩;have hpl:c'≤(gt2 x.s.ms o).length:=by omega
  have hfl':∀y,W[o]?=some y→plM (gt2 x.s.ms o) y≤c':=fun y hy=>by have:=hfl y hy;omega
  have hol:o<W.length:=by rw[A.gw.len];exact A.lt
  exact⟨W.set o x.s.ev.length,rfl,hx,rfl,by simp,wr_le A.gw A.lt rfl fr hpl hfl' rfl (Vle.rfl' _ _),.inr ⟨o,c',_,rfl,A.lt,.inl rfl,rfl,rfl,hpl,nup_of P3,List.getElem?_set_self hol,hfl',fun (h:(2:Int)=5)=>absurd h (by decide),hb (.inl o9)⟩,fun (h:rdsK 2=true)=>absurd h (by decide),fun _=>hr,(show (2:Int)≠4 by decide)⟩
 rw[if_neg o9]at P;rw[if_neg o9];by_cases o12:x.i.op=12
 ·rw[if_pos o12]at P;simp only[Bool.and_eq_true,Bool.or_eq_true,decide_eq_true_eq,Bool.not_eq_true']at P;obtain⟨P1,P2,P3⟩:=P;have hfl':∀y,W[o]?=some y→plM (gt2 x.s.ms o) y≤c:=fun y hy=>by have:=hfl y hy;omega
  rw[if_neg (by omega),if_neg (by omega)];by_cases hA:atV x.p x.s o c=reg t x.i.b
  ·rw[if_pos hA];exact eff_up (p:=x.p) _ (reg t x.i.c) (hc o12) hx A fr P2 hfl' (nup_of (P3.resolve_left (fun h=>h hA))) rfl rfl rfl rfl
  ·rw[if_neg hA];exact eff_rd (p:=x.p) _ 6 (.inr (.inl rfl)) hx A P2 hfl' rfl rfl rfl rfl
 rw[if_neg o12]at P;simp only[Bool.and_eq_true,decide_eq_true_eq,Bool.not_eq_true']at P;obtain⟨P1,P2,P3⟩:=P;have hfl':∀y,W[o]?=some y→plM (gt2 x.s.ms o) y≤c:=fun y hy=>by have:=hfl y hy;omega
 by_cases o10:x.i.op=10
 ·rw[if_pos o10];exact eff_up (p:=x.p) _ _ (hb (.inr o10)) hx A fr P2 hfl' (nup_of P3) rfl rfl rfl rfl
 ·rw[if_neg o10,if_pos (by omega)];exact eff_up (p:=x.p) _ _ (by rw[okV_iff];exact w32_isVal _) hx A fr P2 hfl' (nup_of P3) rfl rfl rfl rfl
end Go.Am.E
