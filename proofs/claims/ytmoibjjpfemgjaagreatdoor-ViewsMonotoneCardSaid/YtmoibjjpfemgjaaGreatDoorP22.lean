/- Parts of the proofs of the statement, joined and made short: V27 V8 V9 V28 V29 V30 V31 V32 V12 EW43 V13 V33 V34 V35 V36 V37. -/
import Derived.Test.YtmoibjjpfemgjaaGreatDoorP21
import Derived.Test.YtmoibjjpfemgjaaGreatDoorP20
import Derived.Test.YtmoibjjpfemgjaaGreatDoorP19
set_option linter.unusedVariables false
set_option linter.unusedSimpArgs false
set_option linter.unusedSectionVars false
set_option maxRecDepth 10000
set_option maxHeartbeats 16000000
namespace Go.Am.E
open Go.Proofs Go.Ex Go.Rc
attribute [local simp] same_d same_r same_p same_n same_c ztc7 zuc7 zsc7 pairK zyc7 chgOf slim sameAt meets updT
def exX (x:Stq) (t:Th) (k:Nat):Stq:=
 let w:=gt2 x.s.vs k
 let o:=x.i.o.toNat
 if x.i.op=13 then kdX x 7
 else if x.i.op=15∨x.i.op=16∨x.i.op=17 then mxX x k o w (gt2 x.s.lk o)
 else if x.i.op=18 then wtX x t k x.i.n.toNat o w (gt2 x.s.lk x.i.n.toNat) (gt2 x.s.sg o)
 else if x.i.op=19∨x.i.op=20 then sgX x k o w (gt2 x.s.sg o)
 else if x.i.op=21 then (match chd t with
  |none=>erX x 30
  |some c=>if (fndT x.s.th c).isSome=true∨newE x.p x.bd c x.i.o (reg t x.i.b)≠0 then erX x 30 else spX x k (posT c x.s.th) w (newT x.p x.bd c x.i.o (reg t x.i.b)))
 else if x.i.op=22 then (match fndT x.s.th (reg t x.i.b) with
  |none=>koX x 17 (reg t x.i.b)
  |some j=>setV (koX x 17 (reg t x.i.b)) k (jnV x.s.ms w (gt2 x.s.vs j) 0))
 else acX x t k o w x.ch.toNat
def exS (x:Stq) (t:Th):Nat:=
 if x.i.op=15∨x.i.op=16∨x.i.op=17 then (if mxB x x.i.o.toNat then 0 else 1)
 else if x.i.op=18∨x.i.op=19∨x.i.op=20 then 1
 else if x.i.op=21 then (match chd t with
  |none=>0
  |some c=>if (fndT x.s.th c).isSome=true∨newE x.p x.bd c x.i.o (reg t x.i.b)≠0 then 0 else 2)
 else 0
@[simp] abbrev xZ (n:Nat) (x:Stq) (m:Me):List TObj:=match n with
 |0=>xO x n0 true
 |1=>xJ x m
 |_=>xQ x
structure Xh (x:Stq) (t:Th) (k:Nat):Prop where
 hf:Fit x.p
 hk:x.ix=k
 ht:x.s.th[k]?=some t
 hid:t.id<10000000000000
 P:Pi x.p x.i
 vi:vis x.i.op=true
 hms:x.s.ms.length=x.p.vs.length
 hmo:x.s.mo.length=x.p.vs.length
 hml:x.p.vs.length<1000000
 hvl:x.s.vs.length=x.s.th.length
 hlk:x.s.lk.length=x.p.ms.length
 hsg:x.s.sg.length=x.p.cs.length
 hth:x.s.th.length<1000000
 lms:∀l∈x.s.ms,l.length<100000
 lmo:∀v,(gt2 x.s.ms v).length=(gt2 x.s.mo v).length
 vw:∀v∈x.s.vs,v.length=x.s.ms.length
 lw:∀v∈x.s.lk,v.length=x.s.ms.length
 sw:∀v∈x.s.sg,v.length=x.s.ms.length
 mw:∀l∈x.s.ms,∀m∈l,m.vw.length=x.s.ms.length
 me:Mb x.s.me
 ixl:x.p.ms.length<1000000∧x.p.cs.length<1000000
 jn:x.i.op=22→fndT x.s.th (reg t x.i.b)≠some k
 ac:acc x.i.op=true→∃c:Nat,x.ch=c∧((x.i.op=9∧1≤c∧c≤(gt2 x.s.ms x.i.o.toNat).length+1)∨((x.i.op=8∨x.i.op=10∨x.i.op=11∨x.i.op=12∨x.i.op=14)∧c≤(gt2 x.s.ms x.i.o.toNat).length))
theorem zec7 {α:Type} {l:List (List α)} {x:Nat} (h:x<l.length):l[x]?=some (gt2 l x):=by
 rw[List.getElem?_eq_getElem h,zxd7 (List.getElem?_eq_getElem h)]
theorem Pi.ob {p:Pg} {i:In} (h:Pi p i) (h0:0≤nob p i.op):∃x:Nat,i.o=x∧(x:Int)<nob p i.op:=by
 obtain⟨n,hn⟩:=h.ii;have h1:=(zpe7 hn).2.2.1 h0;exact⟨i.o.toNat,by omega,by omega⟩
theorem Pi.mu {p:Pg} {i:In} (h:Pi p i) (ho:i.op=18):∃x:Nat,i.n=x∧x<p.ms.length:=by
 obtain⟨n,hn⟩:=h.ii;have h1:=(zpe7 hn).2.2.2 ho;exact⟨i.n.toNat,by omega,by omega⟩
theorem run44 (x:Stq) (t:Th) (k:Nat) (h:Xh x t k):K 44 [.ref ((0,0),0,0) 0] (xO x n0 true)=some (.tup [],xZ (exS x t) (exX x t k) x.s.me):=by
 have hk:=h.hk;have hkl:=(zca7 h.ht).2.2;have hv:=zec7 (show k<x.s.vs.length by have:=h.hvl;omega);have hvw:=h.vw _ (List.mem_of_getElem? hv);have hixk:Ix k:=by have:=h.hth;unfold Ix;omega
 have hms:=h.hms;have hmo:=h.hmo;have hml:=h.hml;have hlms:∀l∈x.s.ms,l.length<1000000:=fun l hl=>by have:=h.lms l hl;omega
 have hwl:(gt2 x.s.vs k).length<1000000:=by omega
 have mx:∀o:Nat,o<x.p.ms.length→Mx x.s x.ix k o (gt2 x.s.vs k) (gt2 x.s.lk o):=fun o ho=>by
  have ho1:=zec7 (show o<x.s.lk.length by have:=h.hlk;omega);have:=h.lw _ (List.mem_of_getElem? ho1);exact⟨hk,hv,ho1,by omega,by omega,hwl,hlms,⟨hixk,by have:=h.ixl.1;unfold Ix;omega⟩,h.me⟩
 have cn:∀o:Nat,o<x.p.cs.length→Cn x.s x.ix k o (gt2 x.s.vs k) (gt2 x.s.sg o):=fun o ho=>by
  have ho1:=zec7 (show o<x.s.sg.length by have:=h.hsg;omega);have:=h.sw _ (List.mem_of_getElem? ho1);exact⟨hk,hv,ho1,by omega,by omega,hwl,hlms,⟨hixk,by have:=h.ixl.2;unfold Ix;omega⟩,h.me⟩
 have hvi:=h.vi;simp only[vis,decide_eq_true_eq]at hvi;by_cases o13:x.i.op=13
 ·have e1:exX x t k=kdX x 7:=by simp[exX,o13]
  have e2:exS x t=0:=by simp[exS,o13]
  rw[e1,e2];refine ce rfl ?_;simp[o13]
 by_cases oM:x.i.op=15∨x.i.op=16∨x.i.op=17
 ·obtain⟨o,ho,ho2⟩:=h.P.ob (by unfold nob;rw[if_neg (by omega),if_pos oM];omega);unfold nob at ho2;rw[if_neg (by omega),if_pos oM]at ho2;have e1:exX x t k=mxX x k o (gt2 x.s.vs k) (gt2 x.s.lk o):=by simp[exX,o13,oM,ho]
  have e2:exS x t=if mxB x o then 0 else 1:=by simp[exS,oM,ho]
  rw[e1,e2];have h92:=run92 x k o _ _ (mx o (by omega)) ho oM;have e3:(xZ (if mxB x o then 0 else 1) (mxX x k o (gt2 x.s.vs k) (gt2 x.s.lk o)) x.s.me)=(if mxB x o then xO (mxX x k o (gt2 x.s.vs k) (gt2 x.s.lk o)) n0 true else xJ (mxX x k o (gt2 x.s.vs k) (gt2 x.s.lk o)) x.s.me):=by cases mxB x o<;>rfl
  rw[e3];generalize mxX x k o (gt2 x.s.vs k) (gt2 x.s.lk o)=Z at *
  cases c:mxB x o<;>rw[c]at h92
  ·refine ce rfl ?_;rcases oM with oM|oM|oM<;>simp[xB,xS,xM,oM]at h92<;>simp[oM,h92]
  ·refine ce rfl ?_;rcases oM with oM|oM|oM<;>simp[xB,xS,xM,oM]at h92<;>simp[oM,h92]
 by_cases oW:x.i.op=18
 ·obtain⟨o,ho,ho2⟩:=h.P.ob (by unfold nob;rw[if_neg (by omega),if_neg (by omega),if_pos (by omega)];omega);unfold nob at ho2;rw[if_neg (by omega),if_neg (by omega),if_pos (by omega)]at ho2;obtain⟨n,hn,hn2⟩:=h.P.mu oW;have e1:exX x t k=wtX x t k n o (gt2 x.s.vs k) (gt2 x.s.lk n) (gt2 x.s.sg o):=by simp[exX,oW,ho,hn]
  have e2:exS x t=1:=by simp[exS,oW]
  rw[e1,e2];have h93:=run93 x t k n o _ _ _ (mx n hn2) (cn o (by omega)) h.ht ho hn;generalize wtX x t k n o (gt2 x.s.vs k) (gt2 x.s.lk n) (gt2 x.s.sg o)=Z at *
  refine ce rfl ?_;simp[xB,xS,xM,oW]at h93;simp[oW,h93]
 by_cases oS:x.i.op=19∨x.i.op=20
 ·obtain⟨o,ho,ho2⟩:=h.P.ob (by unfold nob;rw[if_neg (by omega),if_neg (by omega),if_pos (by omega)];omega);unfold nob at ho2;rw[if_neg (by omega),if_neg (by omega),if_pos (by omega)]at ho2;have e1:exX x t k=sgX x k o (gt2 x.s.vs k) (gt2 x.s.sg o):=by rcases oS with oS|oS<;>simp[exX,oS,ho]
  have e2:exS x t=1:=by rcases oS with oS|oS<;>simp[exS,oS]
  rw[e1,e2];have h94:=run94 x k o _ _ (cn o (by omega)) ho oS;generalize sgX x k o (gt2 x.s.vs k) (gt2 x.s.sg o)=Z at *
  refine ce rfl ?_;rcases oS with oS|oS<;>simp[xB,xS,xM,oS]at h94<;>simp[oS,h94]
 by_cases oP:x.i.op=21
 ·have hv1:=h.hvl;cases hc:chd t with
  |none=>
   have e1:exX x t k=erX x 30:=by simp[exX,oP,hc]
   have e2:exS x t=0:=by simp[exS,oP,hc]
   rw[e1,e2];have h95:=run95e x t k h.hf hk h.ht hixk h.hid h.hth h.P.reg oP (fun c h=>by rw[hc]at h;cases h) (fun c h=>by rw[hc]at h;cases h);refine ce rfl ?_;simp[xB,xS,xM,oP]at h95;simp[oP,h95]
  |some c=>
   have hcl:=(chd_lt hc).2;by_cases he:(fndT x.s.th c).isSome=true∨newE x.p x.bd c x.i.o (reg t x.i.b)≠0
   ·have e1:exX x t k=erX x 30:=by simp[exX,oP,hc];exact fun a b=>absurd he (by simp[a,b])
    have e2:exS x t=0:=by simp[exS,oP,hc];exact fun a=>by simpa[a]using he
    rw[e1,e2];have h95:=run95e x t k h.hf hk h.ht hixk h.hid h.hth h.P.reg oP (fun c' h=>by rw[hc]at h;obtain rfl:=Option.some.inj h;exact he) (fun c' h=>by rw[hc]at h;obtain rfl:=Option.some.inj h;omega);refine ce rfl ?_;simp[xB,xS,xM,oP]at h95;simp[oP,h95]
   ·have e1:exX x t k=spX x k (posT c x.s.th) (gt2 x.s.vs k) (newT x.p x.bd c x.i.o (reg t x.i.b)):=by simp only[exX,oP,hc,if_neg he];rfl
    have e2:exS x t=2:=by simp only[exS,oP,hc,if_neg he];rfl
    rw[e1,e2];have h95:=run95 x t k (gt2 x.s.vs k) c h.hf hk h.ht hv hwl hixk h.hid h.hth hv1 h.P.reg oP hc (by cases hh:fndT x.s.th c with|none=>rfl|some j=>exact absurd (.inl (by rw[hh];rfl)) he) (Classical.byContradiction fun hh=>he (.inr hh)) (by omega);generalize spX x k (posT c x.s.th) (gt2 x.s.vs k) (newT x.p x.bd c x.i.o (reg t x.i.b))=Z at *
    refine ce rfl ?_;simp[xB,xS,xM,oP]at h95;simp[oP,h95]
 obtain⟨t1,t2,t3⟩:=zca7 h.ht;by_cases oJ:x.i.op=22
 ·have r2:=h.P.reg.2.1;rw[oJ]at r2;obtain⟨j,hj,j1,j2,j3,j4⟩:=rg8 (r2 rfl);have e2:exS x t=0:=by simp[exS,oJ]
  rw[e2];have hre:reg t x.i.b=t.rg j:=by simp[reg,hj]
  have hrg:=(zca7 (zqb7 t j1)).1;have h36:=run36 x.s.th (t.rg j) (by have:=h.hth;omega);unfold fndP at h36;cases hc:fndT x.s.th (t.rg j) with
  |none=>
   rw[hc]at h36;have e1:exX x t k=koX x 17 (t.rg j):=by simp[exX,oJ,hre,hc]
   rw[e1];refine ce rfl ?_;simp at h36;simp[oJ,hk,hixk,h.ht,t1,t2,t3,h36,hj,j1,j2,j3,j4,zqb7,zjd7,reg,hrg]
  |some u=>
   rw[hc]at h36;obtain⟨tu,hu1,hu2⟩:=fndT_get hc;have hul:=(zca7 hu1).2.2;have huv:=zec7 (show u<x.s.vs.length by have:=h.hvl;omega);have hne:u≠k:=fun e=>h.jn oJ (by rw[hre,hc,e])
   have huw:=h.vw _ (List.mem_of_getElem? huv);have e1:exX x t k=setV (koX x 17 (t.rg j)) k (jnV x.s.ms (gt2 x.s.vs k) (gt2 x.s.vs u) 0):=by simp[exX,oJ,hre,hc]
   rw[e1];have h96:=run96 .vs (koX x 17 (t.rg j)) k u (gt2 x.s.vs k) (gt2 x.s.vs u) ⟨hv,huv,hne⟩ hwl (by omega) (by show _≤x.s.ms.length;omega) hlms;rw[show (koX x 17 (t.rg j)).s.ms=x.s.ms from rfl]at h96;obtain⟨v1,v2,v3⟩:=zca7 hv;obtain⟨u1,u2,u3⟩:=zca7 huv;have r1:=(zca7 (zwb7 (0,7) x.vp hv)).1;have r3:=(zca7 (zwb7 (0,7) x.vp huv)).1;have hixu:Ix u:=by have:=h.hth;unfold Ix;omega
   generalize jnV x.s.ms (gt2 x.s.vs k) (gt2 x.s.vs u) 0=J at *
   generalize gt2 x.s.vs k=w at *
   generalize gt2 x.s.vs u=w' at *
   refine ce rfl ?_;simp at h36;simp[xB,xS,xM,aT,fV,fM,fL,fS,xE,setV,zrb7,oJ,hk,hj]at h96;simp[oJ,hk,hixk,hixu,h.ht,t1,t2,t3,h36,h96,hj,j1,j2,j3,j4,zqb7,zjd7,reg,hrg,hv,huv,v1,v2,v3,u1,u2,u3,r1,r3];simp[setV,zrb7,oJ,hk,hj]
 ·have hac:acc x.i.op=true:=by simp[acc];omega
  obtain⟨o,ho,ho2⟩:=h.P.va (acc_op hac);have hl:=zec7 (show o<x.s.ms.length by omega);have hmo1:=zec7 (show o<x.s.mo.length by omega)
  have e1:exX x t k=acX x t k o (gt2 x.s.vs k) x.ch.toNat:=by
   have:=acc_op hac;simp only[exX,if_neg o13,if_neg oM,if_neg oW,if_neg oS,if_neg oP,if_neg oJ,ho,Int.toNat_natCast]
  have e2:exS x t=0:=by
   simp only[exS,if_neg oM];rw[if_neg (by omega),if_neg oP]
  rw[e1,e2];obtain⟨c,hc,hcc⟩:=h.ac hac;rw[ho,Int.toNat_natCast]at hcc;have h97:=run97 x t k o c _ _ _ ⟨hk,ho,hv,by omega,hl,hmo1,h.lmo o,ho2,⟨hixk,by unfold Ix;omega⟩,hwl,by omega,h.lms,fun m hm=>by have:=h.mw _ (List.mem_of_getElem? hl) m hm;omega⟩ h.ht h.P.reg hc hcc;rw[hc,Int.toNat_natCast];generalize acX x t k o (gt2 x.s.vs k) c=Z at *
  refine ce rfl ?_;simp[xB,xS,xM]at h97;have n1:¬x.i.op=15:=fun e=>oM (.inl e)
  have n2:¬x.i.op=16:=fun e=>oM (.inr (.inl e))
  have n3:¬x.i.op=17:=fun e=>oM (.inr (.inr e))
  have n4:¬x.i.op=19:=fun e=>oS (.inl e)
  have n5:¬x.i.op=20:=fun e=>oS (.inr e)
  simp[o13,n1,n2,n3,n4,n5,oW,oP,oJ,h97]
end Go.Am.E

set_option maxRecDepth 10000
set_option maxHeartbeats 8000000
namespace Go.Am.E
open Go.Proofs Go.Ex Go.Rc
attribute [-simp] splice
attribute [local simp] zma7 MsD
theorem loop35_2 (s:Ra) (h:Sr s) (ho:s.mo.length=s.ms.length) (st:St) (hs:hd [5,115,116] [5] st=some ⟨[(5,.ref ((6,0),0,0) 0),(115,.dat (N s.ms.length)),(116,.dat (N 0))],[((6,0),rbx s)]⟩):
  Ev (zga7 (exec K l35_2) st) (bQ (fun q=>q.1=.exit 2∧hd [5] [] q.2=some ⟨[(5,.ref ((6,0),0,0) 0)],[((6,0),rbx s)]⟩) (RQ 6) (msR s)):=by
 have hms:=h.ms
 refine (zvb7 (live:=[5,115,116]) (drop:=[5]) s.ms (yF fun x l=>gdM s x&&alI (fun _ (m:Msg)=>gdV s m.vw) l 0) (by omega) (fun k=>⟨[(5,.ref ((6,0),0,0) 0),(115,.dat (N s.ms.length)),(116,.dat (N k))],[((6,0),rbx s)]⟩)
  (fun q=>q.1=.exit 2∧hd [5] [] q.2=some ⟨[(5,.ref ((6,0),0,0) 0)],[((6,0),rbx s)]⟩) (fun _ q=>RQ 6 q)
  (fun i l st g1 g2 g3 ix hs=>?_) (fun st hs=>?_) _ hs).mono ?_
 ·have hl:=List.mem_of_getElem? g1;have hg:=zxd7 g1;have hml:=h.ml l hl;have hi:i<s.ms.length:=by omega
  have hmo:=h.mo (s.mo[i]'(by omega)) (List.getElem_mem _);have h74:=run74 s i hi (by omega) (by rw[hg];omega) (by rw[zxd7 (List.getElem?_eq_getElem (show i<s.mo.length by omega))];omega);have hlp:=loop35_1 s h i l hl;cases c1:gdM s i<;>rw[c1]at h74
  ·simp[hs,g1,g2,g3,ix,h74,yF,c1]
  ·simp[hs,g1,g2,g3,ix,h74,yF,c1];generalize alI (fun _ (m:Msg)=>gdV s m.vw) l 0=B at *
   simp only[zaa7];refine (hlp _ (by simp)).mono ?_;rintro⟨y,s'⟩ hq;cases B with
   |false=>
    obtain⟨rfl,hq⟩:=hq;simp[hq]
   |true=>
    obtain⟨rfl,hq⟩:=hq;dsimp only at hq;simp[hq,ix]
 ·simp[hs]
 ·rw[scan_alI];intro q hq;unfold msR;generalize alI (fun x l=>gdM s x&&alI (fun _ (m:Msg)=>gdV s m.vw) l 0) s.ms 0=B at *
  cases B<;>exact hq
abbrev S35 (s:Ra) (k:Nat):Env:=[(5,.ref ((6,0),0,0) 0),(146,.dat (.sl [LsD s.vs,LsD s.lk,LsD s.sg])),(147,.dat (N 3)),(148,.dat (N k))]
theorem loop35_3 (s:Ra) (h:Sr s) (k:Nat) (l:List (List Int)) (hl:l.length<1000000) (hv:∀v∈l,v.length<1000000) (st:St) (hs:hd [5,146,147,148,152,153,154] [] st=some ⟨S35 s k++[(152,.dat (LsD l)),(153,.dat (N l.length)),(154,.dat (N 0))],[((6,0),rbx s)]⟩):
  Ev (zga7 (exec K l35_3) st) (bQ (fun q=>q.1=.exit 8∧hd [5,146,147,148] [] q.2=some ⟨S35 s k,[((6,0),rbx s)]⟩) (RQ 6) (alI (fun _ v=>gdV s v) l 0)):=by
 refine (zvb7 (live:=[5,146,147,148,152,153,154]) (drop:=[]) l (yF fun _ v=>gdV s v) (by omega) (fun j=>⟨S35 s k++[(152,.dat (LsD l)),(153,.dat (N l.length)),(154,.dat (N j))],[((6,0),rbx s)]⟩)
  (fun q=>q.1=.exit 8∧hd [5,146,147,148] [] q.2=some ⟨S35 s k,[((6,0),rbx s)]⟩) (fun _ q=>RQ 6 q)
  (fun i v st g1 g2 g3 ix hs=>?_) (fun st hs=>?_) _ hs).mono ?_
 ·have h75:=run75 s v (fun l hl=>by have:=h.ml l hl;omega) (by have:=h.ms;omega) (by have:=hv v (List.mem_of_getElem? g1);omega);cases c2:gdV s v<;>rw[c2]at h75<;>simp[hs,g1,g2,g3,ix,h75,yF,c2]
 ·simp[hs]
 ·rw[scan_alI];intro q hq;generalize alI (fun _ v=>gdV s v) l 0=B at *
  cases B<;>exact hq
theorem loop35_4 (s:Ra) (h:Sr s) (st:St) (hs:hd [5,146,147,148] [] st=some ⟨S35 s 0,[((6,0),rbx s)]⟩):
  Ev (zga7 (exec K l35_4) st) (bQ (fun q=>q.1=.exit 6∧∃os,hd [] [] q.2=some ⟨[],os⟩) (RQ 6) (vwR s)):=by
 refine (zvb7 (live:=[5,146,147,148]) (drop:=[]) [s.vs,s.lk,s.sg] (yF fun _ l=>alI (fun _ v=>gdV s v) l 0) (by simp) (fun k=>⟨S35 s k,[((6,0),rbx s)]⟩)
  (fun q=>q.1=.exit 6∧∃os,hd [] [] q.2=some ⟨[],os⟩) (fun _ q=>RQ 6 q)
  (fun i l st g1 g2 g3 ix hs=>?_) (fun st hs=>?_) _ hs).mono ?_
 ·have hl:l.length<1000000∧∀v∈l,v.length<1000000:=by
   have:=List.mem_of_getElem? g1;simp at this;rcases this with rfl|rfl|rfl
   ·exact⟨h.vs,h.vsl⟩
   ·exact⟨h.lk,h.lkl⟩
   ·exact⟨h.sg,h.sgl⟩
  have hlp:=loop35_3 s h i l hl.1 hl.2;have g3':(i:Int)<3:=by simpa using g3
  have hI:([LsD s.vs,LsD s.lk,LsD s.sg]:List Dat)[i]?=some (LsD l):=by
   have:([s.vs,s.lk,s.sg].map fun l=>LsD l)[i]?=some (LsD l):=by rw[List.getElem?_map,g1];rfl
   exact this
  have hi:i<3:=by omega
  obtain⟨i1,-,-⟩:=zca7 hI;simp[hs,g1,g3',ix,yF,hI,hi,i1];simp only[zaa7];refine (hlp _ (by simp)).mono ?_;rintro⟨y,s'⟩ hq;rcases Bool.eq_false_or_eq_true (alI (fun _ v=>gdV s v) l 0) with c|c<;>rw[c]at hq
  ·obtain⟨rfl,hq⟩:=hq;dsimp only at hq;simp[hq,ix,c]
  ·obtain⟨rfl,hq⟩:=hq;simp[hq,c]
 ·simp[hs]
 ·rw[scan_alI];intro q hq;unfold vwR;generalize alI (fun _ l=>alI (fun _ v=>gdV s v) l 0) [s.vs,s.lk,s.sg] 0=B at *
  cases B<;>exact hq
end Go.Am.E

set_option maxRecDepth 10000
set_option maxHeartbeats 8000000
namespace Go.Am.E
open Go.Proofs Go.Ex Go.Rc
attribute [-simp] splice
attribute [local simp] zma7 MsD
theorem loop35_0 (p:Pg) (hf:Fit p) (bd:Int) (hb:stdE p bd=0) (s:Ra) (h:Sr s) (st:St) (hs:hd [1,3,5,84,85,86] [3,5,84] st=some ⟨[(1,.dat (N bd)),(3,.ref ((4,0),0,0) 0),(5,.ref ((6,0),0,0) 0),(84,.dat (.sl (s.th.map TD))),(85,.dat (N s.th.length)),(86,.dat (N 0))],[((4,0),pbox p),((6,0),rbx s)]⟩):
  Ev (zga7 (exec K l35_0) st) (bQ (fun q=>q.1=.exit 0∧hd [5] [] q.2=some ⟨[(5,.ref ((6,0),0,0) 0)],[((4,0),pbox p),((6,0),rbx s)]⟩) (RQ 6) (s.th.all (okT p bd)&&srtT s.th)):=by
 have hth:=h.th
 refine (zvb7 (live:=[1,3,5,84,85,86]) (drop:=[3,5,84]) s.th (vsF p bd s.th) (by omega) (fun k=>⟨[(1,.dat (N bd)),(3,.ref ((4,0),0,0) 0),(5,.ref ((6,0),0,0) 0),(84,.dat (.sl (s.th.map TD))),(85,.dat (N s.th.length)),(86,.dat (N k))],[((4,0),pbox p),((6,0),rbx s)]⟩)
  (fun q=>q.1=.exit 0∧hd [5] [] q.2=some ⟨[(5,.ref ((6,0),0,0) 0)],[((4,0),pbox p),((6,0),rbx s)]⟩) (fun _ q=>RQ 6 q)
  (fun i y s' g1 g2 g3 ix hs'=>?_) (fun s' hs'=>?_) _ hs).mono ?_
 ·have h2:=run73 p hf bd y (h.tb y (List.mem_of_getElem? g1));rw[show vldT p bd y=okT p bd y by simp[vldT,hb]]at h2;cases c2:okT p bd y<;>rw[c2]at h2
  ·simp[hs',g1,g2,g3,ix,h2,vsF,c2]
  ·cases i with
   |zero=>
    have h4:0<s.th.length:=by omega
    simp at hs';simp[hs',g1,g2,h4,h2,vsF,c2,oldT]
   |succ j=>
    obtain⟨u,u1,u2⟩:=zad7 s.th (i:=j) (by omega);have w:IntKind.wrap .i64 (j:Int)=j:=wrap_i64 (by omega) (by omega);have wS:IntKind.wrap .i64 ((j:Int)+1+1)=j+1+1:=wrap_i64 (by omega) (by omega);have j1:(j:Int)+1<s.th.length:=by omega
    have j2:(j:Int)<s.th.length:=by omega
    have j3:(0:Int)<(j:Int)+1:=by omega
    simp at hs';by_cases c3:u.id<y.id
    ·have c3':¬y.id≤u.id:=by omega
     simp[hs',g1,g2,h2,vsF,c2,oldT,u1,u2,w,wS,j1,j2,j3,c3,c3']
    ·have c3':y.id≤u.id:=by omega
     simp[hs',g1,g2,h2,vsF,c2,oldT,u1,u2,w,wS,j1,j2,j3,c3,c3']
 ·simp[hs']
 ·intro q hq;rw[srt_scan0]at hq;generalize (s.th.all (okT p bd)&&srtT s.th)=B at *
  cases B<;>exact hq
theorem run35 (p:Pg) (hf:Fit p) (bd:Int) (hb:stdE p bd=0) (s:Ra) (h:Sr s):K 35 [.dat (PD p),.dat (N bd),.dat (RaD s)] []=some (.dat (.bool (vldR p bd s)),[]):=by
 have h1:=run72 p hf s.me h.me;have hl0:=loop35_0 p hf bd hb s h;have hl2:=loop35_2 s h;have hl4:=loop35_4 s h;refine ce rfl ?_;unfold vldR;cases c1:valM p s.me<;>rw[c1]at h1
 ·simp[h1]
 by_cases d1:s.ms.length=p.vs.length;rotate_left
 ·have d1':¬(s.ms.length:Int)=p.vs.length:=by omega
  simp[h1,shR,d1,d1']
 by_cases d2:s.mo.length=p.vs.length;rotate_left
 ·have d2':¬(s.mo.length:Int)=p.vs.length:=by omega
  simp[h1,shR,d1,d2,d2']
 by_cases d3:s.vs.length=s.th.length;rotate_left
 ·have d3':¬(s.vs.length:Int)=s.th.length:=by omega
  simp[h1,shR,d1,d2,d3,d3']
 by_cases d4:s.lk.length=p.ms.length;rotate_left
 ·have d4':¬(s.lk.length:Int)=p.ms.length:=by omega
  simp[h1,shR,d1,d2,d3,d4,d4']
 by_cases d5:s.sg.length=p.cs.length;rotate_left
 ·have d5':¬(s.sg.length:Int)=p.cs.length:=by omega
  simp[h1,shR,d1,d2,d3,d4,d5,d5']
 by_cases d6:s.ev.length≤512;rotate_left
 ·have d6':(512:Int)<s.ev.length:=by omega
  simp[h1,shR,d1,d2,d3,d4,d5,d6,d6']
 have d6':¬(512:Int)<s.ev.length:=by omega
 by_cases d7:s.rf.length=s.ev.length;rotate_left
 ·have d7':¬(s.rf.length:Int)=s.ev.length:=by omega
  simp[h1,shR,d1,d2,d3,d4,d5,d6,d6',d7,d7']
 have hl2:=hl2 (by omega);have hsh:shR p s=true:=by simp[shR,d1,d2,d3,d4,d5,d6,d7]
 rw[hsh];simp[h1,d1,d2,d3,d4,d5,d6,d6',d7];simp only[zaa7];refine (hl0 _ (by simp[d1,d2,d3,d4,d5,d6,d6',d7])).mono ?_;generalize (s.th.all (okT p bd)&&srtT s.th)=B;rintro⟨y,s'⟩ hq;cases B with
 |false=>
  obtain⟨rfl,hq⟩:=hq;simp[hq]
 |true=>
  obtain⟨rfl,hq⟩:=hq;dsimp only at hq;simp[hq];simp only[zaa7];refine (hl2 _ (by simp[d1])).mono ?_;generalize msR s=B;rintro⟨y,s'⟩ hq;cases B with
  |false=>
   obtain⟨rfl,hq⟩:=hq;simp[hq]
  |true=>
   obtain⟨rfl,hq⟩:=hq;dsimp only at hq;simp[hq];simp only[zaa7];refine (hl4 _ (by simp)).mono ?_;generalize vwR s=B;rintro⟨y,s'⟩ hq;cases B with
   |false=>
    obtain⟨rfl,hq⟩:=hq;simp[hq]
   |true=>
    obtain⟨rfl,os,hq⟩:=hq;dsimp only at hq;simp[hq]
end Go.Am.E

set_option maxRecDepth 10000
set_option maxHeartbeats 16000000
namespace Go.Am.E
open Go.Proofs Go.Ex Go.Rc
attribute [local simp] same_d same_r same_p same_n same_c ztc7 zuc7 zsc7 pairK zyc7 chgOf slim sameAt meets updT
structure Vl (p:Pg) (bd:Int) (s:Ra):Prop where
 va:valM p s.me=true
 hms:s.ms.length=p.vs.length
 hmo:s.mo.length=p.vs.length
 hvl:s.vs.length=s.th.length
 hlk:s.lk.length=p.ms.length
 hsg:s.sg.length=p.cs.length
 ev:s.ev.length≤512
 rf:s.rf.length=s.ev.length
 ok:∀t∈s.th,okT p bd t=true
 so:srtT s.th=true
 gm:∀x,x<s.ms.length→gdM s x=true
 mv:∀l∈s.ms,∀m∈l,gdV s m.vw=true
 gv:∀v∈s.vs,gdV s v=true
 gl:∀v∈s.lk,gdV s v=true
 gs:∀v∈s.sg,gdV s v=true
theorem alI_all {α:Type} {f:Nat→α→Bool}:∀{l:List α} {i:Nat},alI f l i=true↔∀j x,l[j]?=some x→f (i+j) x=true
 |[],i=>by simp[alI]
 |y::r,i=>by
  rw[alI,Bool.and_eq_true,alI_all (l:=r)];constructor
  ·rintro⟨h1,h2⟩ j x hj;cases j with
   |zero=>simp at hj;subst hj;exact h1
   |succ j=>rw[show i+(j+1)=i+1+j by omega];exact h2 j x (by simpa using hj)
  ·intro h;exact⟨h 0 y rfl,fun j x hj=>by rw[show i+1+j=i+(j+1) by omega];exact h (j+1) x (by simpa using hj)⟩
theorem vld_iff {p:Pg} {bd:Int} {s:Ra} (h:vldR p bd s=true):Vl p bd s:=by
 unfold vldR shR msR vwR at h;simp only[Bool.and_eq_true,decide_eq_true_eq,alI_all,List.all_eq_true]at h;obtain⟨⟨⟨⟨h1,h2⟩,h3⟩,h4⟩,h5⟩:=h
 have key:∀l∈[s.vs,s.lk,s.sg],∀v∈l,gdV s v=true:=by
  intro l hl v hv;obtain⟨j,hj⟩:=List.mem_iff_getElem?.1 hl;obtain⟨k,hk⟩:=List.mem_iff_getElem?.1 hv;exact h5 j l hj k v hk
 refine⟨h1,h2.1.1.1.1.1.1,h2.1.1.1.1.1.2,h2.1.1.1.1.2,h2.1.1.1.2,h2.1.1.2,h2.1.2,h2.2,h3.1,h3.2,fun x hx=>?_,fun l hl m hm=>?_,key _ (by simp),key _ (by simp),key _ (by simp)⟩
 ·have:=(h4 x _ (List.getElem?_eq_getElem hx)).1;simpa using this
 ·obtain⟨j,hj⟩:=List.mem_iff_getElem?.1 hl;obtain⟨k,hk⟩:=List.mem_iff_getElem?.1 hm;exact (h4 j l hj).2 k m hk
theorem gdV_len {s:Ra} {v:List Int} (h:gdV s v=true):v.length=s.ms.length:=by
 simp only[gdV,Bool.and_eq_true,decide_eq_true_eq]at h;exact h.1
theorem gdM_len {s:Ra} {x:Nat} (h:gdM s x=true):(gt2 s.ms x).length=(gt2 s.mo x).length:=by
 simp only[gdM,Bool.and_eq_true,decide_eq_true_eq]at h;exact h.1
theorem gdM_ev {s:Ra} {x:Nat} (h:gdM s x=true):∀m∈gt2 s.ms x,0≤m.ev∧m.ev<s.ev.length:=by
 intro m hm;obtain⟨k,hk⟩:=List.mem_iff_getElem?.1 hm;simp only[gdM,Bool.and_eq_true,decide_eq_true_eq]at h;have:=alI_all.1 h.2 k m hk;simp only[Bool.and_eq_true,decide_eq_true_eq]at this;exact this.1.1.1
theorem zle7 {α:Type} {l:List (List α)} {x:Nat} (h:¬x<l.length):gt2 l x=[]:=by
 rw[gt2,List.getElem?_eq_none (by omega)];rfl
def x0R (p:Pg) (bd:Int) (s:Ra) (ag ch:Int) (k:Nat) (t:Th) (i:In):Stq:=⟨p,bd,s,k,ch,i,⟨ag,t.st,0,0,-1,-1,0,0,0⟩,-2,0,0,0,s.ms.length,s.vs.length,s.lk.length,s.sg.length,s.mo.length⟩
def afR (p:Pg) (bd:Int) (t:Th) (x:Stq):Ra:={ x.s with th:=x.s.th.set x.ix.toNat (cmpT p bd t x.re),ev:=x.s.ev++[x.e],rf:=x.s.rf++[x.rf] }
def stpR (p:Pg) (bd:Int) (s:Ra) (ag ch:Int):Int ⊕ (Ra×Evt):=
 if stdE p bd≠0 then .inl (stdE p bd)
 else if vldR p bd s=false then .inl 1
 else match fndT s.th ag with
 |none=>.inl 19
 |some k=>match s.th[k]? with
  |none=>.inl 19
  |some t=>
   if (chs p s t (gt2 s.vs k)).contains ch=false then .inl 19
   else if 512≤s.ev.length then .inl 4
   else match penT p t with
    |none=>.inl 19
    |some i=>
     if (exX (x0R p bd s ag ch k t i) t k).er≠0 then .inl 30
     else if Go.Ex.cmpE p bd t (exX (x0R p bd s ag ch k t i) t k).re≠0 then .inl (Go.Ex.cmpE p bd t (exX (x0R p bd s ag ch k t i) t k).re)
     else .inr (afR p bd t (exX (x0R p bd s ag ch k t i) t k),(exX (x0R p bd s ag ch k t i) t k).e)
def oR:Int ⊕ (Ra×Evt)→AVal
 |.inl e=>.tup [.dat (RaD ⟨[],⟨[],[],[],[]⟩,[],[],[],[],[],[],[]⟩),.dat (ED ⟨0,0,0,0,0,0,0,0,0⟩),.dat (N e)]
 |.inr (s,e)=>.tup [.dat (RaD s),.dat (ED e),.dat (N 0)]
def Kp (x y:Stq):Prop:=y.s.ev=x.s.ev∧y.s.rf=x.s.rf∧y.s.th=x.s.th∧y.ix=x.ix∧y.p=x.p∧y.bd=x.bd
theorem Kp.rfl' (x:Stq):Kp x x:=⟨rfl,rfl,rfl,rfl,rfl,rfl⟩
theorem Kp_rd (x:Stq) (k v:Nat) (w:List Int) (c:Nat):Kp x (rdX x k v w c):=by
 unfold rdX;split
 ·exact⟨rfl,rfl,rfl,rfl,rfl,rfl⟩
 ·split<;>exact⟨rfl,rfl,rfl,rfl,rfl,rfl⟩
theorem Kp_up (x:Stq) (k v:Nat) (w:List Int) (c:Nat) (o:Int):Kp x (upX x k v w c o):=by
 unfold upX;split
 ·exact⟨rfl,rfl,rfl,rfl,rfl,rfl⟩
 ·split<;>exact⟨rfl,rfl,rfl,rfl,rfl,rfl⟩
theorem Kp_ac (x:Stq) (t:Th) (k v:Nat) (w:List Int) (c:Nat):Kp x (acX x t k v w c):=by
 unfold acX;dsimp only
 repeat' split
 ·exact Kp_rd (kdX (obX x x.i.o x.i.r) _) k v w c
 ·exact Kp_rd (kdX (obX x x.i.o x.i.r) _) k v w c
 ·exact⟨rfl,rfl,rfl,rfl,rfl,rfl⟩
 ·exact Kp_up (obX x x.i.o x.i.r) k v w c _
 ·exact Kp_up (obX x x.i.o x.i.r) k v w c _
 ·exact Kp_up (obX x x.i.o x.i.r) k v w c _
 ·exact Kp_rd (kdX (obX x x.i.o x.i.r) _) k v w c
theorem Kp_mx (x:Stq) (k i:Nat) (v o:List Int):Kp x (mxX x k i v o):=by
 unfold mxX tkX
 repeat' split
 all_goals exact⟨rfl,rfl,rfl,rfl,rfl,rfl⟩
theorem Kp_wt (x:Stq) (t:Th) (k i c:Nat) (v o u:List Int):Kp x (wtX x t k i c v o u):=by
 unfold wtX tkX
 repeat' split
 all_goals exact⟨rfl,rfl,rfl,rfl,rfl,rfl⟩
theorem Kp_sg (x:Stq) (k c:Nat) (v u:List Int):Kp x (sgX x k c v u):=by
 unfold sgX;split<;>exact⟨rfl,rfl,rfl,rfl,rfl,rfl⟩
theorem exX_inv (x:Stq) (t:Th) (k:Nat) (hk:x.ix=k) (hkl:k<x.s.th.length):(exX x t k).s.ev=x.s.ev∧(exX x t k).s.rf=x.s.rf∧(∃j:Nat,(exX x t k).ix=j∧j<(exX x t k).s.th.length)∧(exX x t k).s.th.length≤x.s.th.length+1∧(exX x t k).p=x.p∧(exX x t k).bd=x.bd:=by
 have key:∀y:Stq,y.s.ev=x.s.ev→y.s.rf=x.s.rf→y.s.th=x.s.th→y.ix=x.ix→y.p=x.p→y.bd=x.bd→y.s.ev=x.s.ev∧y.s.rf=x.s.rf∧(∃j:Nat,y.ix=j∧j<y.s.th.length)∧y.s.th.length≤x.s.th.length+1∧y.p=x.p∧y.bd=x.bd:=by
  intro y h1 h2 h3 h4 h5 h6;exact⟨h1,h2,⟨k,by rw[h4,hk],by rw[h3];exact hkl⟩,by rw[h3];omega,h5,h6⟩
 have kp:∀y,Kp x y→_:=fun y h=>key y h.1 h.2.1 h.2.2.1 h.2.2.2.1 h.2.2.2.2.1 h.2.2.2.2.2
 unfold exX;dsimp only
 repeat' split
 ·exact kp _ ⟨rfl,rfl,rfl,rfl,rfl,rfl⟩
 ·exact kp _ (Kp_mx ..)
 ·exact kp _ (Kp_wt ..)
 ·exact kp _ (Kp_sg ..)
 ·exact kp _ ⟨rfl,rfl,rfl,rfl,rfl,rfl⟩
 ·exact kp _ ⟨rfl,rfl,rfl,rfl,rfl,rfl⟩
 ·rename_i c _ _;have hl:=zke7 x.s.th (posT c x.s.th) (newT x.p x.bd c x.i.o (reg t x.i.b)) (posT_le ..);refine⟨rfl,rfl,?_,Nat.le_of_eq hl,rfl,rfl⟩
  show ∃j:Nat,(if posT c x.s.th≤k then (k:Int)+1 else k)=j∧j<(ins x.s.th (posT c x.s.th) (newT x.p x.bd c x.i.o (reg t x.i.b))).length
  rw[hl];split
  ·exact⟨k+1,by omega,by omega⟩
  ·exact⟨k,rfl,by omega⟩
 ·exact kp _ ⟨rfl,rfl,rfl,rfl,rfl,rfl⟩
 ·exact kp _ ⟨rfl,rfl,rfl,rfl,rfl,rfl⟩
 ·exact kp _ (Kp_ac ..)
end Go.Am.E

set_option maxRecDepth 10000
set_option maxHeartbeats 16000000
namespace Go.Am.E
open Go.Proofs Go.Ex Go.Rc
structure Sw (s:Ra):Prop where
 sr:Sr s
 ml:∀l∈s.ms,l.length<100000
theorem pk_mem {P:Nat→Bool} {n:Nat} {c:Int} (h:c∈pk P n):∃k:Nat,c=k∧k<n∧P k=true:=by
 unfold pk at h;simp only[List.mem_map,List.mem_filter,List.mem_range]at h;obtain⟨k,⟨h1,h2⟩,rfl⟩:=h;exact⟨k,rfl,h1,h2⟩
theorem gdV_pos {s:Ra} {v:List Int} (h:gdV s v=true) {x:Nat} (hx:x<s.ms.length):0≤posM (gt2 s.ms x) ((v[x]?).getD 0):=by
 simp only[gdV,Bool.and_eq_true,decide_eq_true_eq,alI_all]at h;obtain⟨h1,h2⟩:=h;have hv:=List.getElem?_eq_getElem (show x<v.length by omega);have:=h2 x _ hv;rw[hv];simpa using this
theorem Vl.rv {p:Pg} {bd:Int} {s:Ra} (h:Vl p bd s) (hf:Fit p) (hp:chP p=0) (hs:Sw s):Rv p s:=by
 refine⟨hf,hp,hs.sr.me,hs.sr.th,hs.sr.tb,h.hms,h.hmo,hs.sr.ml,fun x m hm=>?_⟩;by_cases hx:x<s.ms.length
 ·exact gdM_ev (h.gm x hx) m hm
 ·rw[zle7 hx]at hm;cases hm
theorem chs_ac {p:Pg} {s:Ra} {t:Th} {i:In} {v:List Int} {ch:Int} (hpn:penT p t=some i) (ha:acc i.op=true) (h:(chs p s t v).contains ch=true) (hpos:0≤posM (gt2 s.ms i.o.toNat) ((v[i.o.toNat]?).getD 0)):
  ∃c:Nat,ch=c∧posB p s t i (posM (gt2 s.ms i.o.toNat) ((v[i.o.toNat]?).getD 0)) c=true∧((i.op=9∧1≤c∧c≤(gt2 s.ms i.o.toNat).length+1)∨((i.op=8∨i.op=10∨i.op=11∨i.op=12∨i.op=14)∧c≤(gt2 s.ms i.o.toNat).length)):=by
 unfold chs at h;rw[hpn]at h;dsimp only at h;rw[if_pos ha,List.contains_iff_mem]at h;obtain⟨c,h1,h2,h3⟩:=pk_mem h;refine⟨c,h1,h3,?_⟩;have h3':=h3;unfold posB at h3;have hop:=acc_op ha;by_cases o9:i.op=9
 ·rw[if_neg (by omega),if_neg (by omega),if_pos o9]at h3;simp only[Bool.and_eq_true,decide_eq_true_eq]at h3;exact .inl ⟨o9,by omega,h3.2.1⟩
 ·refine .inr ⟨by omega,?_⟩;rw[if_neg o9]at h3;split at h3
  ·simp only[Bool.and_eq_true,decide_eq_true_eq]at h3;exact h3.2
  split at h3
  ·simp only[Bool.and_eq_true,decide_eq_true_eq]at h3;exact h3.2.1
  split at h3
  ·simp only[Bool.and_eq_true,decide_eq_true_eq]at h3;exact h3.2.1
  ·simp only[Bool.and_eq_true,decide_eq_true_eq]at h3;exact h3.2.1
theorem acc_22 {op:Int} (h:op=22):acc op=false:=by subst h;decide
theorem xh_of {p:Pg} {bd ag ch:Int} {s:Ra} {k:Nat} {t:Th} {i:In} (hf:Fit p) (hb:stdE p bd=0) (hs:Sw s) (h:Vl p bd s) (hk:s.th[k]?=some t) (hpn:penT p t=some i) (hc:(chs p s t (gt2 s.vs k)).contains ch=true):Xh (x0R p bd s ag ch k t i) t k:=by
 have hp:=(zge7 hb).1;have htb:=hs.sr.tb t (List.mem_of_getElem? hk);obtain⟨P,hvi,hss,hok,hin⟩:=pen_pi hp htb hpn;have hid:=dep_lt (frmT_dep ((okT_run hok hss).1));have hlim:=chP_lim hp;have hkl:=(zca7 hk).2.2;have hvl:=h.hvl;have hv:=zec7 (show k<s.vs.length by omega);have hgv:=h.gv _ (List.mem_of_getElem? hv)
 exact {
  hf:=hf,hk:=rfl,ht:=hk,hid:=by omega,P:=P,vi:=hvi,hms:=h.hms,hmo:=h.hmo
  hml:=by show p.vs.length<1000000;omega
  hvl:=hvl,hlk:=h.hlk,hsg:=h.hsg,hth:=hs.sr.th,lms:=hs.ml
  lmo:=fun v=>by
   by_cases hv:v<s.ms.length
   ·exact gdM_len (h.gm v hv)
   ·show (gt2 s.ms v).length=(gt2 s.mo v).length
    have:=h.hms;have:=h.hmo;rw[zle7 hv,zle7 (by omega)];rfl
  vw:=fun v hv=>gdV_len (h.gv v hv)
  lw:=fun v hv=>gdV_len (h.gl v hv)
  sw:=fun v hv=>gdV_len (h.gs v hv)
  mw:=fun l hl m hm=>gdV_len (h.mv l hl m hm)
  me:=hs.sr.me
  ixl:=⟨by show p.ms.length<1000000;omega,by show p.cs.length<1000000;omega⟩
  jn:=fun o22 e=>by
   have o22:i.op=22:=o22;have e:fndT s.th (reg t i.b)=some k:=e;unfold chs at hc;rw[hpn]at hc;dsimp only at hc;rw[if_neg (by rw[acc_22 o22];decide)]at hc;split at hc
   ·rename_i hr;unfold rdyR at hr;rw[if_neg (by omega),if_neg (by omega),if_pos o22,e]at hr;dsimp only at hr;rw[hk]at hr;simp[hss]at hr
   ·simp at hc
  ac:=fun ha=>by
   have ha:acc i.op=true:=ha;obtain⟨x,hx,hxp⟩:=P.va (acc_op ha)
   have hpos:0≤posM (gt2 s.ms i.o.toNat) (((gt2 s.vs k)[i.o.toNat]?).getD 0):=by
    rw[hx,Int.toNat_natCast];exact gdV_pos hgv (by have:=h.hms;omega)
   obtain⟨c,h1,h2,h3⟩:=chs_ac hpn ha hc hpos;exact⟨c,h1,h3⟩ }
end Go.Am.E

set_option maxRecDepth 10000
set_option maxHeartbeats 16000000
namespace Go.Am.E
open Go.Proofs Go.Ex Go.Rc
attribute [local simp] same_d same_r same_p same_n same_c ztc7 zuc7 zsc7 pairK zyc7 chgOf slim sameAt meets updT MsD
theorem IDc_eq (i:In):IDc i=[.dat (N i.op),.dat (N i.a),.dat (N i.b),.dat (N i.c),.dat (N i.o),.dat (N i.n),.dat (N i.f),.dat (N i.r)]:=rfl
theorem run17 (p:Pg) (hf:Fit p) (bd:Int) (s:Ra) (hs:Sw s) (ag ch:Int):K 17 [.agg ((PDl p).map AVal.dat),.dat (N bd),.dat (RaD s),.dat (NP (ag,ch))] []=some (oR (stpR p bd s ag ch),[]):=by
 have h41:=run41 p bd hf;by_cases hb:stdE p bd=0;rotate_left
 ·have e:stpR p bd s ag ch=.inl (stdE p bd):=by unfold stpR;rw[if_pos hb]
  rw[e];unfold oR;dsimp only;generalize stdE p bd=E at *
  refine ce rfl ?_;simp[h41,hb,NP]
 have h35:=run35 p hf bd hb s hs.sr;rw[hb]at h41;cases hv:vldR p bd s<;>rw[hv]at h35
 ·have e:stpR p bd s ag ch=.inl 1:=by unfold stpR;rw[if_neg (by rw[hb];simp),if_pos hv]
  rw[e];unfold oR;dsimp only;refine ce rfl ?_;simp[h41,h35,NP]
 have V:=vld_iff hv;have hp:=(zge7 hb).1;have h36:=run36 s.th ag (by have:=hs.sr.th;omega);unfold fndP at h36;cases hfn:fndT s.th ag with
 |none=>
  have e:stpR p bd s ag ch=.inl 19:=by unfold stpR;rw[if_neg (by rw[hb];simp),if_neg (by rw[hv];simp),hfn]
  rw[e];unfold oR;dsimp only;rw[hfn]at h36;simp at h36;refine ce rfl ?_;simp[h41,h35,h36,NP]
 |some k=>
  rw[hfn]at h36;obtain⟨t,ht,htid⟩:=fndT_get hfn;obtain⟨t1,t2,t3⟩:=zca7 ht;have hkv:=zec7 (show k<s.vs.length by have:=V.hvl;omega);have h37:=run37 p s (V.rv hf hp hs) k t (gt2 s.vs k) ht hkv (gdV_len (V.gv _ (List.mem_of_getElem? hkv)))
  have hst:stpR p bd s ag ch=if (chs p s t (gt2 s.vs k)).contains ch=false then .inl 19
   else if 512≤s.ev.length then .inl 4
   else match penT p t with
    |none=>.inl 19
    |some i=>
     if (exX (x0R p bd s ag ch k t i) t k).er≠0 then .inl 30
     else if Go.Ex.cmpE p bd t (exX (x0R p bd s ag ch k t i) t k).re≠0 then .inl (Go.Ex.cmpE p bd t (exX (x0R p bd s ag ch k t i) t k).re)
     else .inr (afR p bd t (exX (x0R p bd s ag ch k t i) t k),(exX (x0R p bd s ag ch k t i) t k).e):=by
   unfold stpR;rw[if_neg (by rw[hb];simp),if_neg (by rw[hv];simp),hfn];dsimp only;rw[ht];try rfl
  have hcl:(chs p s t (gt2 s.vs k)).length<100000000000:=by
   unfold chs;split
   ·simp
   ·split
    ·have:=pk_len (posB p s t ‹_› (posM (gt2 s.ms (In.o ‹_›).toNat) (((gt2 s.vs k)[(In.o ‹_›).toNat]?).getD 0))) ((gt2 s.ms (In.o ‹_›).toNat).length+2)
     have hl:(gt2 s.ms (In.o ‹_›).toNat).length<1000000:=by
      by_cases hx:(In.o ‹_›).toNat<s.ms.length
      ·have:=zec7 hx;exact hs.sr.ml _ (List.mem_of_getElem? this)
      ·rw[zle7 hx];simp
     omega
    ·split<;>simp
  have h42:=run42 (chs p s t (gt2 s.vs k)) ch hcl;cases hcc:(chs p s t (gt2 s.vs k)).contains ch
  ·rw[hst,if_pos hcc];rw[hcc]at h42;unfold oR;dsimp only;simp at h36;generalize chs p s t (gt2 s.vs k)=C at *
   refine ce rfl ?_;simp[h41,h35,h36,h37,h42,NP]
  ·rw[hst,if_neg (by rw[hcc];simp)];rw[hcc]at h42;by_cases hev:512≤s.ev.length
   ·rw[if_pos hev];have hev':(512:Int)≤s.ev.length:=by omega
    unfold oR;dsimp only;simp at h36;generalize chs p s t (gt2 s.vs k)=C at *
    refine ce rfl ?_;simp[h41,h35,h36,h37,h42,hev',NP]
   ·rw[if_neg hev];have hev':¬(512:Int)≤s.ev.length:=by omega
    obtain⟨i,hpn⟩:∃i,penT p t=some i:=by
     cases hpn:penT p t with
     |some i=>exact⟨i,rfl⟩
     |none=>unfold chs at hcc;rw[hpn]at hcc;simp at hcc
    have xh:=xh_of (ch:=ch) (ag:=ag) hf hb hs V ht hpn hcc;have h43:=run43 p hf t (hs.sr.tb t (List.mem_of_getElem? ht));rw[penP_pen hp,hpn]at h43;have h29:=run29 s hs.sr;have h44:=run44 (x0R p bd s ag ch k t i) t k xh;obtain⟨i1,i2,⟨j,i3,i4⟩,i5,i6,i7⟩:=exX_inv (x0R p bd s ag ch k t i) t k rfl t3;have h45:=run45 p hf bd t (hs.sr.tb t (List.mem_of_getElem? ht)) (exX (x0R p bd s ag ch k t i) t k).re;have ixk:Ix k:=by have:=hs.sr.th;unfold Ix;omega
    rw[hpn];dsimp only;generalize exX (x0R p bd s ag ch k t i) t k=Z at *
    have hS:exS (x0R p bd s ag ch k t i) t=0∨exS (x0R p bd s ag ch k t i) t=1∨exS (x0R p bd s ag ch k t i) t=2:=by
     unfold exS
     repeat' split
     all_goals simp
    generalize exS (x0R p bd s ag ch k t i) t=n at *
    generalize chs p s t (gt2 s.vs k)=C at *
    simp only[insP]at h43;simp at h36;by_cases her:Z.er=0
    ·rw[if_neg (by simp[her])];unfold cmpPr at h45;have hzl:Z.s.th.length<10000000:=by have:=hs.sr.th;have:(x0R p bd s ag ch k t i).s.th.length=s.th.length:=rfl;omega
     have jx:Ix j:=by unfold Ix;omega
     have i1:Z.s.ev=s.ev:=i1;have i2:Z.s.rf=s.rf:=i2;have hrl:=V.rf;have rm1:(s.ev.length+1)*73≤1099511627776:=by omega
     have rm2:(s.rf.length+1)*9≤1099511627776:=by omega
     have j3:(j:Int)<Z.s.th.length:=by omega
     by_cases hce:Go.Ex.cmpE p bd t Z.re=0
     ·rw[if_neg (by simp[hce])];rw[if_pos hce]at h45;unfold oR afR;dsimp only;rw[i3,Int.toNat_natCast,i1,i2];generalize cmpT p bd t Z.re=T at *
      have d17:∀u:Th,List.drop 17 (TDl u)=[]:=fun _=>rfl
      rcases hS with hS|hS|hS
      all_goals
       subst hS;simp[xB,xS,xM,xE,xQB,x0R,i3,i1,i2]at h44;refine ce rfl ?_;simp[h41,h35,h36,h37,h42,hev',NP,ht,t1,t2,t3,h43,h29,h44,her,ixk,IDc_eq,h45,i1,i2,i3,i4,j3,jx,rm1,rm2,d17]
     ·rw[if_pos hce];rw[if_neg hce]at h45;unfold oR;dsimp only;generalize Go.Ex.cmpE p bd t Z.re=E at *
      rcases hS with hS|hS|hS
      all_goals
       subst hS;simp[xB,xS,xM,x0R]at h44;refine ce rfl ?_;simp[h41,h35,h36,h37,h42,hev',NP,ht,t1,t2,t3,h43,h29,h44,her,ixk,IDc_eq,h45,hce]
    ·rw[if_pos her];unfold oR;dsimp only;rcases hS with hS|hS|hS
     all_goals
      subst hS;simp[xB,xS,xM,x0R]at h44;refine ce rfl ?_;simp[h41,h35,h36,h37,h42,hev',NP,ht,t1,t2,t3,h43,h29,h44,her,ixk,IDc_eq]
end Go.Am.E

set_option maxHeartbeats 4000000
namespace Go.Am.E
open Go.Proofs Go.Ex Go.Rc
def mass (m:Me):Nat:=m.sg.length+m.qu.flatten.length
theorem flat_set (q:List Int):∀(l:List (List Int)) (k:Nat),(l.set k q).flatten.length+((l[k]?).getD []).length≤l.flatten.length+q.length
 |[],k=>by simp
 |a::r,0=>by simp;omega
 |a::r,k+1=>by
  have:=flat_set q r k;simp only[List.set_cons_succ,List.flatten_cons,List.length_append,List.getElem?_cons_succ]at this ⊢;omega
theorem flat_len (l:List (List Int)) (q:List Int) (h:q∈l):q.length≤l.flatten.length:=by
 induction l with
 |nil=>cases h
 |cons a r ih=>
  rcases List.mem_cons.1 h with rfl|h
  ·simp
  ·have:=ih h;simp only[List.flatten_cons,List.length_append];omega
theorem fold_ins (l:List Int):∀s:List Int,(l.foldl (fun s i=>Go.Ex.ins i s) s).length≤s.length+l.length:=by
 induction l with
 |nil=>intro s;simp
 |cons a r ih=>
  intro s;have h1:=ih (Go.Ex.ins a s);have h2:=ins_len a s;simp only[List.foldl_cons,List.length_cons];omega
theorem mass_wak (m:Me) (c:Int) (n:Nat):mass (wakM m c n)≤mass m+1:=by
 have h1:=fold_ins ((getq m c).take n) m.sg;have h2:=flat_set ((getq m c).drop n) m.qu c.toNat;have h3:(((m.qu[c.toNat]?).getD []).length)=(getq m c).length:=rfl;rw[List.length_take]at h1;rw[List.length_drop]at h2;unfold mass wakM;simp only;omega
theorem mass_enq (m:Me) (c id:Int):mass (enqM m c id)≤mass m+1:=by
 have h2:=flat_set (getq m c++[id]) m.qu c.toNat;have h3:(((m.qu[c.toNat]?).getD []).length)=(getq m c).length:=rfl;rw[List.length_append]at h2;unfold mass enqM;simp only[List.length_cons,List.length_nil]at h2 ⊢;omega
theorem mass_wok (m:Me) (id:Int):mass (wokM m id)≤mass m+1:=by
 have:=List.length_filter_le (fun x=>decide (x≠id)) m.sg;unfold mass wokM del;simp only;omega
theorem newT_hd (p:Pg) (bd id fn arg:Int):(newT p bd id fn arg).hd=[]:=by
 unfold newT;rw[(setl_same _ _ _ _).2.2];rfl
theorem cmpT_hd (p:Pg) (bd:Int) (t:Th) (v:Int):(cmpT p bd t v).hd.length≤t.hd.length+1:=by
 unfold cmpT;split
 ·rw[(setl_same _ _ _ _).2.2];exact (nxtT_same _ _ _).2.2.2
 ·omega
structure Jm (n:Nat) (m:Me):Prop where
 va:m.va.length≤8
 ow:m.ow.length≤8
 qu:m.qu.length≤8
 ms:mass m≤n
theorem Jm.up {n n':Nat} {m:Me} (h:Jm n m) (hn:n≤n'):Jm n' m:=⟨h.va,h.ow,h.qu,by have:=h.ms;omega⟩
theorem Jm.nil (n:Nat):Jm n ⟨[],[],[],[]⟩:=⟨by simp,by simp,by simp,by simp[mass]⟩
theorem Jm.mem {n:Nat} {m:Me} (h:Jm n m) (e:Int):Jm n (memM e m):=by
 unfold memM;split
 ·exact h
 ·exact Jm.nil n
theorem Jm.own {n:Nat} {m:Me} (h:Jm n m) (i v:Int):Jm n (Go.Ex.ownM m i v):=⟨h.va,by simp[Go.Ex.ownM];exact h.ow,h.qu,h.ms⟩
theorem Jm.wak {n:Nat} {m:Me} (h:Jm n m) (c:Int) (k:Nat):Jm (n+1) (wakM m c k):=⟨h.va,h.ow,by simp[wakM];exact h.qu,by have:=mass_wak m c k;have:=h.ms;omega⟩
theorem Jm.enq {n:Nat} {m:Me} (h:Jm n m) (c id:Int):Jm (n+1) (enqM m c id):=⟨h.va,h.ow,by simp[enqM];exact h.qu,by have:=mass_enq m c id;have:=h.ms;omega⟩
theorem Jm.wok {n:Nat} {m:Me} (h:Jm n m) (id:Int):Jm (n+1) (wokM m id):=⟨h.va,h.ow,h.qu,by have:=mass_wok m id;have:=h.ms;omega⟩
theorem Jm.mb {n:Nat} {m:Me} (h:Jm n m) (hn:n≤1000):Mb m:=by
 have h4:=h.ms;unfold mass at h4;refine⟨by have:=h.va;omega,by have:=h.ow;omega,by have:=h.qu;omega,fun q hq=>?_,by omega⟩;have:=flat_len _ _ hq;omega
abbrev Rw (l:List (List Int)):Prop:=∀v∈l,v.length≤8
theorem Rw.set {l:List (List Int)} (h:Rw l) {w:List Int} (hw:w.length≤8) (k:Nat):Rw (l.set k w):=fun v hv=>by
 rcases List.mem_or_eq_of_mem_set hv with hv|rfl
 ·exact h v hv
 ·exact hw
structure Jr (n:Nat) (s:Ra):Prop where
 me:Jm n s.me
 th:s.th.length≤8+n
 ts:∀t∈s.th,t.id<100000000∧t.hd.length≤1000
 ms:s.ms.length≤8
 ml:∀l∈s.ms,l.length≤n
 mw:∀l∈s.ms,∀m∈l,m.vw.length≤8
 mo:s.mo.length≤8
 mol:∀l∈s.mo,l.length≤n
 vs:s.vs.length≤8+n
 vw:Rw s.vs
 lk:s.lk.length≤8
 lw:Rw s.lk
 sg:s.sg.length≤8
 sw:Rw s.sg
 ev:s.ev.length≤n
 rf:s.rf.length≤n
theorem Jr.sw' {n:Nat} {s:Ra} (h:Jr n s) (hn:n≤900):Sw s:=by
 refine⟨⟨h.me.mb (by omega),by have:=h.th;omega,fun t ht=>?_,by have:=h.ms;omega,fun l hl=>by have:=h.ml l hl;omega,fun l hl m hm=>by have:=h.mw l hl m hm;omega,fun l hl=>by have:=h.mol l hl;omega,by have:=h.mo;omega,by have:=h.vs;omega,by have:=h.lk;omega,by have:=h.sg;omega,fun v hv=>by have:=h.vw v hv;omega,fun v hv=>by have:=h.lw v hv;omega,fun v hv=>by have:=h.sw v hv;omega,by have:=h.ev;omega,by have:=h.rf;omega⟩,fun l hl=>by have:=h.ml l hl;omega⟩;have:=h.ts t ht;exact⟨by omega,by omega⟩
theorem Jr.up {n:Nat} {s:Ra} (h:Jr n s):Jr (n+1) s:=
 ⟨h.me.up (by omega),by have:=h.th;omega,h.ts,h.ms,fun l hl=>by have:=h.ml l hl;omega,h.mw,h.mo,fun l hl=>by have:=h.mol l hl;omega,by have:=h.vs;omega,h.vw,h.lk,h.lw,h.sg,h.sw,by have:=h.ev;omega,by have:=h.rf;omega⟩
theorem Jr.shr {n:Nat} {s:Ra} (h:Jr n s) {m:Me} (hm:Jm n m) {w:List Int} (hw:w.length≤8) (k i c:Nat):
  Jr n { s with me:=m,vs:=s.vs.set k w }∧Jr n { s with me:=m,vs:=s.vs.set k w,lk:=s.lk.set i w }∧Jr n { s with me:=m,vs:=s.vs.set k w,sg:=s.sg.set c w }∧Jr n { s with me:=m,vs:=s.vs.set k w,lk:=s.lk.set i w,sg:=s.sg.set c w }:=
 ⟨⟨hm,h.th,h.ts,h.ms,h.ml,h.mw,h.mo,h.mol,by simpa using h.vs,h.vw.set hw k,h.lk,h.lw,h.sg,h.sw,h.ev,h.rf⟩,
  ⟨hm,h.th,h.ts,h.ms,h.ml,h.mw,h.mo,h.mol,by simpa using h.vs,h.vw.set hw k,by simpa using h.lk,h.lw.set hw i,h.sg,h.sw,h.ev,h.rf⟩,
  ⟨hm,h.th,h.ts,h.ms,h.ml,h.mw,h.mo,h.mol,by simpa using h.vs,h.vw.set hw k,h.lk,h.lw,by simpa using h.sg,h.sw.set hw c,h.ev,h.rf⟩,
  ⟨hm,h.th,h.ts,h.ms,h.ml,h.mw,h.mo,h.mol,by simpa using h.vs,h.vw.set hw k,by simpa using h.lk,h.lw.set hw i,by simpa using h.sg,h.sw.set hw c,h.ev,h.rf⟩⟩
theorem mem_ins {α:Type} {l:List α} {i:Nat} {a x:α} (h:x∈ins l i a):x=a∨x∈l:=by
 unfold ins at h;rcases List.mem_append.1 h with h|h
 ·exact .inr (List.mem_of_mem_take h)
 ·rcases List.mem_cons.1 h with h|h
  ·exact .inl h
  ·exact .inr (List.mem_of_mem_drop h)
theorem ins_le {α:Type} (l:List α) (i:Nat) (a:α):(ins l i a).length≤l.length+1:=by
 simp[ins];omega
theorem gt2_le {α:Type} {n:Nat} {l:List (List α)} (h:∀r∈l,r.length≤n) (x:Nat):(gt2 l x).length≤n:=by
 by_cases hx:x<l.length
 ·exact h _ (List.mem_of_getElem? (zec7 hx))
 ·rw[zle7 hx];simp
theorem Jr.wr {n:Nat} {s:Ra} (h:Jr n s) (v pl k:Nat) (m:Msg) (w:List Int) (hm:m.vw.length≤8) (hw:w.length≤8):
  Jr (n+1) { s with ms:=s.ms.set v (ins (gt2 s.ms v) pl m),mo:=s.mo.set v (ins (gt2 s.mo v) pl m.ev),vs:=s.vs.set k w }:=by
 have h1:=gt2_le h.ml v;have h2:=gt2_le h.mol v;have h3:=ins_le (gt2 s.ms v) pl m;have h4:=ins_le (gt2 s.mo v) pl m.ev;have u:=h.up;refine⟨u.me,u.th,u.ts,by simpa using h.ms,fun l hl=>?_,fun l hl a ha=>?_,by simpa using h.mo,fun l hl=>?_,by simpa using u.vs,h.vw.set hw k,h.lk,h.lw,h.sg,h.sw,u.ev,u.rf⟩
 ·rcases List.mem_or_eq_of_mem_set hl with hl|rfl
  ·exact u.ml l hl
  ·omega
 ·rcases List.mem_or_eq_of_mem_set hl with hl|rfl
  ·exact h.mw l hl a ha
  ·rcases mem_ins ha with rfl|ha
   ·exact hm
   ·by_cases hx:v<s.ms.length
    ·exact h.mw _ (List.mem_of_getElem? (zec7 hx)) a ha
    ·rw[zle7 hx]at ha;cases ha
 ·rcases List.mem_or_eq_of_mem_set hl with hl|rfl
  ·exact u.mol l hl
  ·omega
end Go.Am.E

set_option maxHeartbeats 4000000
namespace Go.Am.E
open Go.Proofs Go.Ex Go.Rc
theorem Jr.mx {n:Nat} {x:Stq} (h:Jr n x.s) (k i:Nat) (v o:List Int) (hv:v.length≤8):Jr (n+1) (mxX x k i v o).s:=by
 have hj:(jnV x.s.ms v o 0).length≤8:=by rw[zcb7];exact hv
 have key:=fun m (hm:Jm n m)=>(h.shr hm hj k i 0).2.1.up
 unfold mxX tkX
 repeat' split
 ·exact key _ ((h.me.own _ _).mem _)
 ·exact key _ ((h.me.own _ _).mem _)
 ·exact key _ ((h.me.own _ _).mem _)
 ·exact key _ h.me
theorem Jr.wt {n:Nat} {x:Stq} (h:Jr n x.s) (t:Th) (k i c:Nat) (v o u:List Int) (hv:v.length≤8):Jr (n+1) (wtX x t k i c v o u).s:=by
 have hj:(jnV x.s.ms v o 0).length≤8:=by rw[zcb7];exact hv
 have hu:(jnV x.s.ms v u 0).length≤8:=by rw[zcb7];exact hv
 have hj2:(jnV x.s.ms (jnV x.s.ms v o 0) u 0).length≤8:=by rw[zcb7];exact hj
 have kW:=fun m (hm:Jm (n+1) m)=>(h.up.shr hm hj2 k i c).2.2.2
 have kS:=fun m (hm:Jm (n+1) m)=>(h.up.shr hm hu k i c).2.2.1
 have kL:=fun m (hm:Jm (n+1) m)=>(h.up.shr hm hj k i c).2.1
 unfold wtX tkX
 repeat' split
 ·exact kW _ (((h.me.own _ _).enq _ _).mem _)
 ·exact kW _ (Jm.nil _)
 ·exact kS _ ((h.me.wok _).mem _)
 ·exact kL _ (((h.me.own _ _).mem _).up (by omega))
theorem Jr.sgl {n:Nat} {x:Stq} (h:Jr n x.s) (k c:Nat) (v u:List Int) (hv:v.length≤8):Jr (n+1) (sgX x k c v u).s:=by
 have hu:(jnV x.s.ms v u 0).length≤8:=by rw[zcb7];exact hv
 have kS:=fun m (hm:Jm (n+1) m)=>(h.up.shr hm hu k 0 c).2.2.1
 unfold sgX;split<;>exact kS _ ((h.me.wak _ _).mem _)
theorem Jr.rd {n:Nat} {x:Stq} (h:Jr n x.s) (k v:Nat) (w:List Int) (c:Nat) (hw:w.length≤8):Jr n (rdX x k v w c).s:=by
 have key:=fun (w:List Int) (hw:w.length≤8)=>(h.shr h.me hw k 0 0).1
 unfold rdX;split
 ·exact key _ (by simpa using hw)
 ·split
  ·exact h
  ·refine key _ ?_;split
   ·rw[zcb7];simpa using hw
   ·simpa using hw
theorem owV_len (x:Stq) (v pl:Nat) (w:List Int) (o:Int) (f:Option (List Int)):(owV x v pl w o f).length=w.length:=by
 have e:(if x.e.ord=2 then w.set v (x.s.ev.length:Int) else (List.replicate w.length (-1)).set v (x.s.ev.length:Int)).length=w.length:=by split<;>simp
 unfold owV;cases f with
 |none=>exact e
 |some f=>dsimp only;rw[zcb7];exact e
theorem Jr.wrx {n:Nat} {x:Stq} (h:Jr n x.s) (k v pl:Nat) (w:List Int) (o:Int) (f:Option (List Int)) (hw:w.length≤8):Jr (n+1) (wrX x k v pl w o f).s:=
 h.wr v pl k ⟨x.s.ev.length,o,owV x v pl w o f⟩ (w.set v x.s.ev.length) (by rw[owV_len];exact hw) (by simpa using hw)
theorem Jr.upx {n:Nat} {x:Stq} (h:Jr n x.s) (k v:Nat) (w:List Int) (c:Nat) (o:Int) (hw:w.length≤8):Jr (n+1) (upX x k v w c o).s:=by
 unfold upX;cases c with
 |zero=>exact ((h.shr h.me (by simpa using hw) k 0 0).1:Jr n (rd0 (kdX x 5) k v w).s).wrx k v 0 _ o none (by simpa using hw)
 |succ c=>
  dsimp only;split
  ·exact h.up
  ·have hw':∀m:Msg,(if x.e.ord=2 then jnV x.s.ms (w.set v m.ev) m.vw 0 else w.set v m.ev).length≤8:=fun m=>by split<;>simp[zcb7,hw]
   exact ((h.shr h.me (hw' _) k 0 0).1:Jr n (rd1 (kdX x 5) k v w _).s).wrx k v (c+1) _ o _ (hw' _)
theorem Jr.acx {n:Nat} {x:Stq} (h:Jr n x.s) (t:Th) (k v:Nat) (w:List Int) (c:Nat) (hw:w.length≤8):Jr (n+1) (acX x t k v w c).s:=by
 unfold acX;dsimp only
 repeat' split
 ·exact (Jr.rd (x:=kdX (obX x x.i.o x.i.r) _) h k v w c hw).up
 ·exact (Jr.rd (x:=kdX (obX x x.i.o x.i.r) _) h k v w c hw).up
 ·exact Jr.wrx (x:=kdX (obX x x.i.o x.i.r) 2) h k v _ w _ none hw
 ·exact Jr.upx (x:=obX x x.i.o x.i.r) h k v w c _ hw
 ·exact Jr.upx (x:=obX x x.i.o x.i.r) h k v w c _ hw
 ·exact Jr.upx (x:=obX x x.i.o x.i.r) h k v w c _ hw
 ·exact (Jr.rd (x:=kdX (obX x x.i.o x.i.r) 6) h k v w c hw).up
theorem Jr.ex {n:Nat} {x:Stq} (h:Jr n x.s) (t:Th) (k:Nat):Jr (n+1) (exX x t k).s:=by
 have hw:=gt2_le h.vw k;unfold exX;dsimp only
 repeat' split
 ·exact h.up
 ·exact h.mx _ _ _ _ hw
 ·exact h.wt _ _ _ _ _ _ _ hw
 ·exact h.sgl _ _ _ _ hw
 ·exact h.up
 ·exact h.up
 ·rename_i c hc _;have u:=h.up;refine⟨u.me,Nat.le_trans (ins_le _ _ _) (by have:=h.th;omega),fun t ht=>?_,h.ms,u.ml,h.mw,h.mo,u.mol,Nat.le_trans (ins_le _ _ _) (by have:=h.vs;omega),fun v hv=>?_,h.lk,h.lw,h.sg,h.sw,u.ev,u.rf⟩
  ·rcases mem_ins ht with rfl|ht
   ·rw[newT_id,newT_hd];exact⟨(chd_lt hc).2,by simp⟩
   ·exact h.ts t ht
  ·rcases mem_ins hv with rfl|hv
   ·exact hw
   ·exact h.vw v hv
 ·exact h.up
 ·exact (h.shr h.me (by rw[zcb7];exact hw) k 0 0).1.up
 ·exact h.acx _ _ _ _ _ hw
structure StR (p:Pg) (bd:Int) (s:Ra) (ag ch:Int) (k:Nat) (t:Th) (i:In):Prop where
 b:stdE p bd=0
 v:Vl p bd s
 fn:fndT s.th ag=some k
 th:s.th[k]?=some t
 id:t.id=ag
 hc:(chs p s t (gt2 s.vs k)).contains ch=true
 ev:s.ev.length<512
 pn:penT p t=some i
 er:(exX (x0R p bd s ag ch k t i) t k).er=0
 ce:Go.Ex.cmpE p bd t (exX (x0R p bd s ag ch k t i) t k).re=0
theorem stpR_inr {p:Pg} {bd:Int} {s:Ra} {ag ch:Int} {r:Ra×Evt} (h:stpR p bd s ag ch=.inr r):∃k t i,StR p bd s ag ch k t i∧r=(afR p bd t (exX (x0R p bd s ag ch k t i) t k),(exX (x0R p bd s ag ch k t i) t k).e):=by
 unfold stpR at h;split at h
 ·cases h
 rename_i hb;split at h
 ·cases h
 rename_i hv;simp only[Bool.not_eq_false]at hv;cases hfn:fndT s.th ag with
 |none=>rw[hfn]at h;cases h
 |some k=>
  obtain⟨t,ht,hid⟩:=fndT_get hfn;rw[hfn]at h;dsimp only at h;rw[ht]at h;dsimp only at h;split at h
  ·cases h
  rename_i hc;split at h
  ·cases h
  rename_i hev;cases hpn:penT p t with
  |none=>rw[hpn]at h;cases h
  |some i=>
   rw[hpn]at h;dsimp only at h;split at h
   ·cases h
   rename_i her;split at h
   ·cases h
   rename_i hce;cases h;exact⟨k,t,i,⟨by simpa using hb,vld_iff hv,hfn,ht,hid,by simpa using hc,by omega,hpn,by simpa using her,by simpa using hce⟩,rfl⟩
theorem Jr.stp {n:Nat} {p:Pg} {bd:Int} {s:Ra} {ag ch:Int} {r:Ra×Evt} (h:Jr n s) (hn:n≤900) (hr:stpR p bd s ag ch=.inr r):Jr (n+1) r.1:=by
 obtain⟨k,t,i,S,rfl⟩:=stpR_inr hr;have hx:=Jr.ex (x:=x0R p bd s ag ch k t i) h t k;obtain⟨i1,i2,-⟩:=exX_inv (x0R p bd s ag ch k t i) t k rfl (zca7 S.th).2.2;have hok:=S.v.ok t (List.mem_of_getElem? S.th);have htb:=(h.sw' hn).sr.tb t (List.mem_of_getElem? S.th);refine⟨hx.me,by show (List.set _ _ _).length≤_;rw[List.length_set];exact hx.th,fun u hu=>?_,hx.ms,hx.ml,hx.mw,hx.mo,hx.mol,hx.vs,hx.vw,hx.lk,hx.lw,hx.sg,hx.sw,?_,?_⟩
 ·rcases List.mem_or_eq_of_mem_set hu with hu|rfl
  ·exact hx.ts u hu
  ·have hb:t.id<10000000∧t.hd.length≤4:=by
    unfold okT at hok;simp only[Bool.and_eq_true]at hok;exact⟨(dep_lt (frmT_dep hok.1)).2,(frmT_fr (zge7 S.b).1 hok.1).hl⟩
   have:=cmpT_hd p bd t (exX (x0R p bd s ag ch k t i) t k).re;rw[cmpT_id];exact⟨by omega,by omega⟩
 ·show (_++[_]).length≤n+1
  rw[i1,List.length_append];have:=h.ev
  show s.ev.length+1≤n+1
  omega
 ·show (_++[_]).length≤n+1
  rw[i2,List.length_append];have:=h.rf
  show s.rf.length+1≤n+1
  omega
end Go.Am.E

set_option maxRecDepth 10000
set_option maxHeartbeats 8000000
namespace Go.Am.E
open Go.Proofs Go.Ex Go.Rc
attribute [-simp] splice
attribute [local simp] zma7
def iniV (p:Pg) (n:Nat):List (List Int):=List.replicate n (List.replicate p.vs.length (-1))
abbrev fdQ (qs:List (List Int)) (k:Nat):List Dat:=(qs.map Ns).take k++List.replicate (qs.length-k) (.sl [])
theorem fd_step {qs:List (List Int)} {i:Nat} {q:List Int} (h:qs[i]?=some q):(fdQ qs i).set i (Ns q)=fdQ qs (i+1):=by
 have hi:=(List.getElem?_eq_some_iff.1 h).1;have e:((qs.map Ns).take i).length=i:=by simp;omega
 unfold fdQ;rw[List.set_append,if_neg (by omega),e,Nat.sub_self,zmf7 (l:=qs.map Ns) (x:=Ns q) (by rw[List.getElem?_map,h];rfl),show qs.length-i=(qs.length-(i+1))+1 by omega,List.replicate_succ];simp
theorem fd_len (qs:List (List Int)) (i:Nat) (h:i≤qs.length):(fdQ qs i).length=qs.length:=by
 simp[fdQ];omega
theorem fd_get {qs:List (List Int)} {i:Nat} (h:i<qs.length):(fdQ qs i)[i]?=some (.sl []):=by
 have e:((qs.map Ns).take i).length=i:=by simp;omega
 rw[fdQ,List.getElem?_append_right (by omega),e,Nat.sub_self,List.getElem?_replicate,if_pos (by omega)]
theorem run60 (p:Pg) (n:Nat) (hn:n<1000000) (hp:p.vs.length<1000000):K 60 [.dat (PD p),.dat (N n)] []=some (.rsl ((0,0),0,0) 0 1 0 n,[.plain (.arr 1 0 false ((iniV p n).map Ns))]):=by
 have h:24*(n:Int)≤1099511627776:=by omega
 have h2:(n:Int)≤1099511627776:=by omega
 have hlen:(iniV p n).length=n:=by simp[iniV]
 have h124:=run124 p.vs.length hp;refine ce rfl ?_;simp[h,h2];simp only[zaa7]
 refine (zhb7 (live:=[2,5,10,11]) (drop:=[2,5]) (iniV p n) (by omega) (fun k=>⟨[(2,.ref ((3,0),0,0) 0),(5,.rsl ((6,0),0,0) 0 1 0 n),(10,.dat (N n)),(11,.dat (N k))],[((3,0),pbox p),((6,0),.plain (.arr 1 0 false (fdQ (iniV p n) k)))]⟩) (fun _ q=>q.1=.exit 0∧hd [5] [] q.2=some ⟨[(5,.rsl ((6,0),0,0) 0 1 0 n)],[((3,0),pbox p),((6,0),.plain (.arr 1 0 false (fdQ (iniV p n) n)))]⟩)
  (fun i y s d1 d2 d3 ix hs=>?_) (fun s hs=>?_) _ (by simp[hlen,fdQ])).mono ?_
 ·have hi:i<(iniV p n).length:=by omega
  have f1:=fd_len (iniV p n) i (by omega);have f2:=fd_step d1;have f3:=(zca7 (fd_get hi)).1;have hy:y=List.replicate p.vs.length (-1):=List.eq_of_mem_replicate (List.mem_of_getElem? d1);have hyN:y.map N=List.replicate p.vs.length (N (-1)):=by rw[hy,List.map_replicate]
  rw[hlen]at d3 f1 hi;simp only[Ns,hyN]at f2;generalize hF:fdQ (iniV p n) (i+1)=F' at *
  generalize fdQ (iniV p n) i=F at *
  simp[hs,d3,hi,ix,h124,f1,f2,f3,hlen,hF]
 ·simp[hs,hlen]
 ·rintro⟨y,s⟩ ⟨rfl,hq⟩;simp[hq,hlen,fdQ]
end Go.Am.E

set_option maxRecDepth 10000
set_option maxHeartbeats 16000000
namespace Go.Am.E
open Go.Proofs Go.Ex Go.Rc
def thS (p:Pg) (bd:Int):List Th:=(p.ts.zipIdx).map fun t=>newT p bd t.2 t.1.1 t.1.2
theorem thS_get {p:Pg} {bd:Int} {i:Nat} {t:Int×Int} (h:p.ts[i]?=some t):(thS p bd)[i]?=some (newT p bd i t.1 t.2):=by
 unfold thS;rw[List.getElem?_map,List.getElem?_zipIdx,h];simp
@[simp] theorem thS_len (p:Pg) (bd:Int):(thS p bd).length=p.ts.length:=by simp[thS]
abbrev mc (m:Me):List AVal:=[.dat (Ns m.va),.dat (Ns m.ow),.dat (.sl (m.qu.map Ns)),.dat (Ns m.sg)]
def X114 (p:Pg) (bd:Int):Nat→zsa7
 |0=>[((3,0),pbox p),((5,0),nil6),((10,0),.plain (.box [.nils,.dat (Ns (newM p).va),.dat (Ns (newM p).ow),.dat (.sl ((newM p).qu.map Ns)),.dat (Ns (newM p).sg),.nils]))]
 |k+1=>[((3,0),pbox p),((5,0),nil6),((10,0),.plain (.box [.rsl ((10,1),0,0) k 17 0 (k+1),.dat (Ns (newM p).va),.dat (Ns (newM p).ow),.dat (.sl ((newM p).qu.map Ns)),.dat (Ns (newM p).sg),.nils])),((10,1),tA k ((thS p bd).take (k+1)))]
abbrev E114 (p:Pg) (bd:Int) (k:Nat):Env:=[(1,.dat (N bd)),(2,.ref ((3,0),0,0) 0),(4,.ref ((5,0),0,0) 0),(9,.ref ((10,0),0,0) 0),(33,.dat (.sl (p.ts.map NP))),(34,.dat (N p.ts.length)),(35,.dat (N k))]
theorem chP_thr {p:Pg} (h:chP p=0):1≤p.ts.length∧p.ts.length≤8∧∀t∈p.ts,0≤t.1∧t.1<p.fs.length∧okV t.2=true:=by
 have h1:=zpf7 h (thrE p) (by simp);unfold thrE at h1;split at h1
 ·cases h1
 ·refine⟨by omega,by omega,fun t ht=>?_⟩;have h2:=zpf7 h1 (stE p t) (List.mem_map.2 ⟨t,ht,rfl⟩);unfold stE at h2;split at h2
  ·cases h2
  ·split at h2
   ·cases h2
   ·rename_i a b;exact⟨by omega,by omega,by simpa using b⟩
theorem newE_st {p:Pg} {bd:Int} (h0:stdE p bd=0) {i:Nat} {t:Int×Int} (h:p.ts[i]?=some t):newE p bd i t.1 t.2=0:=by
 obtain⟨h1,h2,h3⟩:=chP_thr (zge7 h0).1;obtain⟨g1,g2,g3⟩:=h3 t (List.mem_of_getElem? h);have hi:=(List.getElem?_eq_some_iff.1 h).1
 have hd:dep (i:Int)≠none:=by
  unfold dep;rw[if_neg (by omega)];simp only[dpt];rw[if_pos (by omega)];simp
 unfold newE;rw[if_neg (by simp[h0]),if_neg hd,if_neg (by omega),g3];rfl
end Go.Am.E

set_option maxRecDepth 10000
set_option maxHeartbeats 16000000
namespace Go.Am.E
open Go.Proofs Go.Ex Go.Rc
def st0 (p:Pg) (bd:Int):Ra:=⟨thS p bd,newM p,List.replicate p.vs.length [],iniV p p.ts.length,iniV p p.ms.length,iniV p p.cs.length,[],[],List.replicate p.vs.length []⟩
def stn:Ra:=⟨[],⟨[],[],[],[]⟩,[],[],[],[],[],[],[]⟩
abbrev nilC:List AVal:=[.nils,.nils,.nils,.nils,.nils,.nils,.nils,.nils,.nils,.nils,.nils,.nils]
abbrev aD (l:List Dat):TObj:=.plain (.arr 1 0 false l)
abbrev T21 (p:Pg) (j:Nat):List AVal:=[.rsl ((10,j),0,0) 0 1 0 p.vs.length,.rsl ((10,j+1),0,0) 0 1 0 p.ts.length,.rsl ((10,j+2),0,0) 0 1 0 p.ms.length,.rsl ((10,j+3),0,0) 0 1 0 p.cs.length,.nils,.nils,.rsl ((10,j+4),0,0) 0 1 0 p.vs.length]
abbrev O21 (p:Pg) (j:Nat):zsa7:=[((10,j),aD (List.replicate p.vs.length (.sl []))),((10,j+1),aD ((iniV p p.ts.length).map Ns)),((10,j+2),aD ((iniV p p.ms.length).map Ns)),((10,j+3),aD ((iniV p p.cs.length).map Ns)),((10,j+4),aD (List.replicate p.vs.length (.sl [])))]
def X21 (p:Pg) (bd:Int):Nat→zsa7
 |0=>[((3,0),pbox p),((5,0),.plain (.box nilC)),((10,0),.plain (.box (.nils::mc (newM p)++T21 p 1)))]++O21 p 1
 |k+1=>[((3,0),pbox p),((5,0),.plain (.box nilC)),((10,0),.plain (.box (.rsl ((10,1),0,0) k 17 0 (k+1)::mc (newM p)++T21 p 2))),((10,1),tA k ((thS p bd).take (k+1)))]++O21 p 2
abbrev E21 (p:Pg) (bd:Int) (k:Nat):Env:=[(1,.dat (N bd)),(2,.ref ((3,0),0,0) 0),(4,.ref ((5,0),0,0) 0),(9,.ref ((10,0),0,0) 0),(58,.dat (.sl (p.ts.map NP))),(59,.dat (N p.ts.length)),(60,.dat (N k))]
@[simp] theorem iniV_len (p:Pg) (n:Nat):(iniV p n).length=n:=by simp[iniV]
@[simp] theorem iniV_take (p:Pg) (n:Nat):List.take n (List.map Ns (iniV p n))=List.map Ns (iniV p n):=List.take_of_length_le (by simp)
theorem run21e (p:Pg) (hf:Fit p) (bd:Int) (h0:stdE p bd≠0):K 21 [.dat (PD p),.dat (N bd)] []=some (.tup [.dat (RaD stn),.dat (N (stdE p bd))],[]):=by
 have h1:=run41 p bd hf;refine ce rfl ?_;generalize stdE p bd=e at *
 simp[h1,h0,stn]
theorem run21 (p:Pg) (hf:Fit p) (bd:Int) (h0:stdE p bd=0):K 21 [.dat (PD p),.dat (N bd)] []=some (.tup [.dat (RaD (st0 p bd)),.dat (N 0)],[]):=by
 have h1:=run41 p bd hf;have h2:=run59 p hf;have hp:=(zge7 h0).1;unfold newP' at h2;rw[if_pos hp]at h2;obtain⟨l1,l2,l3⟩:=chP_thr hp;have lm:=chP_lim hp;have v1:=run60 p p.ts.length (by omega) (by omega);have v2:=run60 p p.ms.length (by omega) (by omega);have v3:=run60 p p.cs.length (by omega) (by omega);have r1:24*(p.vs.length:Int)≤1099511627776:=by omega
 have r2:(p.vs.length:Int)≤1099511627776:=by omega
 refine ce rfl ?_;rw[h0]at h1;simp[h1,h2,v1,v2,v3,r1,r2];simp only[zaa7];have rl:∀l:List Str,(l.map fun _=>(-1:Int))=List.replicate l.length (-1):=fun l=>by rw[List.map_const']
 refine (zhb7 (live:=[1,2,4,9,58,59,60]) (drop:=[2,4,9,58]) p.ts (by omega) (fun k=>⟨E21 p bd k,X21 p bd k⟩) (fun _ q=>q.1=.exit 0∧hd [4,9] [] q.2=some ⟨[(4,.ref ((5,0),0,0) 0),(9,.ref ((10,0),0,0) 0)],X21 p bd p.ts.length⟩)
  (fun i y s g1 g2 g3 ix hs=>?_) (fun s hs=>?_) _ (by simp[X21])).mono ?_
 ·have h3:=run61 p hf bd i y.1 y.2 (by omega);unfold newP at h3;rw[if_pos (newE_st h0 g1)]at h3;have e:=zmf7 (thS_get (bd:=bd) g1);obtain⟨fn,arg⟩:=y;simp only at h3 e;cases i with
  |zero=>
   have h4:0<p.ts.length:=by omega
   simp[X21,E21]at hs;simp at h3 e;simp[hs,X21,g1,g2,h4,NP,h3,e]
  |succ i=>
   have hr:(i+1+1)*153≤1099511627776:=by omega
   have h4:i+1<p.ts.length:=by omega
   have h5:(i:Int)+1<p.ts.length:=by omega
   have h6:i+1≤p.ts.length:=by omega
   have h7:min (i+1) p.ts.length=i+1:=by omega
   have wS:IntKind.wrap .i64 ((i:Int)+1+1)=i+1+1:=wrap_i64 (by omega) (by omega);simp[X21,E21]at hs;simp at h3;have e':=congrArg (List.map TD) e;simp at e';simp[hs,X21,g1,g2,h4,h5,h6,h7,NP,h3,e,hr,wS]
 ·cases c:p.ts.length with
  |zero=>omega
  |succ n=>
   rw[c]at hs;simp[X21,E21,c]at hs;simp[hs,X21,c]
 ·rintro⟨y,s⟩ ⟨rfl,hq⟩;cases c:p.ts.length with
  |zero=>omega
  |succ n=>
   have e:List.take (n+1) (thS p bd)=thS p bd:=List.take_of_length_le (by simp[c]);rw[c]at hq;simp only[X21,e]at hq;simp[hq,st0,c]
end Go.Am.E

set_option maxRecDepth 10000
set_option maxHeartbeats 16000000
namespace Go.Am.E
open Go.Proofs Go.Ex Go.Rc
def runR (p:Pg) (bd:Int):Ra→List (Int×Int)→Int ⊕ Ra
 |s,[]=>.inr s
 |s,k::r=>match stpR p bd s k.1 k.2 with
  |.inl e=>.inl e
  |.inr (s',_)=>runR p bd s' r
theorem stpR_ne {p:Pg} {bd:Int} {s:Ra} {ag ch e:Int} (h:stpR p bd s ag ch=.inl e):e≠0:=by
 unfold stpR at h
 repeat' split at h
 all_goals first|(cases h;done)|(cases h;first|assumption|decide)
def oU:Int ⊕ Ra→AVal
 |.inl e=>.tup [.dat (RaD stn),.dat (N e)]
 |.inr s=>.tup [.dat (RaD s),.dat (N 0)]
abbrev E27 (bd:Int) (l:List (Int×Int)) (k:Nat):Env:=[(1,.dat (N bd)),(3,.ref ((4,0),0,0) 0),(6,.ref ((7,0),0,0) 0),(8,.ref ((9,0),0,0) 0),(26,.dat (.sl (l.map NP))),(27,.dat (N l.length)),(28,.dat (N k))]
abbrev X27 (p:Pg) (s:Ra):zsa7:=[((4,0),pbox p),((7,0),.plain (.box nilC)),((9,0),rbx s)]
def Q27 (p:Pg) (q:AEx×St):Int ⊕ Ra→Prop
 |.inl e=>q.1=.ret∧endK [.cell 6 12 true,.t 7] false 0 q=some (oU (.inl e),[])
 |.inr s=>q.1=.exit 0∧hd [6,8] [] q.2=some ⟨[(6,.ref ((7,0),0,0) 0),(8,.ref ((9,0),0,0) 0)],X27 p s⟩
theorem Jr.st0 {p:Pg} {bd:Int} (h0:stdE p bd=0):Jr 0 (st0 p bd):=by
 have hp:=(zge7 h0).1;have hlim:=chP_lim hp;obtain⟨l1,l2,l3⟩:=chP_thr hp
 have ri:∀n,Rw (iniV p n):=fun n v hv=>by
  rw[List.eq_of_mem_replicate hv,List.length_replicate];omega
 have rl:∀n,(iniV p n).length=n:=iniV_len p;have r0:∀{α:Type} (n:Nat),∀l∈List.replicate n ([]:List α),l.length=0:=fun n l hl=>by rw[List.eq_of_mem_replicate hl];rfl
 have hq:(p.cs.map fun _=>([]:List Int)).flatten.length=0:=by
  induction p.cs with
  |nil=>rfl
  |cons a r ih=>simpa using ih
 exact {
  me:=⟨by show (p.vs.map _).length≤8;rw[List.length_map];omega,by show (p.ms.map _).length≤8;rw[List.length_map];omega,by show (p.cs.map _).length≤8;rw[List.length_map];omega,by show 0+(p.cs.map fun _=>([]:List Int)).flatten.length≤0;rw[hq];exact Nat.le_refl _⟩
  th:=by show (thS p bd).length≤8+0;simp[thS];omega
  ts:=fun t ht=>by
   have ht:t∈thS p bd:=ht;simp only[thS,List.mem_map]at ht;obtain⟨⟨a,n⟩,h1,rfl⟩:=ht;rw[newT_id,newT_hd];have:=List.mem_zipIdx h1;dsimp only;exact⟨by omega,by simp⟩
  ms:=by show (List.replicate _ _).length≤8;rw[List.length_replicate];omega
  ml:=fun l hl=>Nat.le_of_eq (r0 _ l hl)
  mw:=fun l hl m hm=>by rw[List.eq_of_mem_replicate hl]at hm;cases hm
  mo:=by show (List.replicate _ _).length≤8;rw[List.length_replicate];omega
  mol:=fun l hl=>Nat.le_of_eq (r0 _ l hl)
  vs:=by show (iniV p p.ts.length).length≤8+0;rw[rl];omega
  vw:=ri _
  lk:=by show (iniV p p.ms.length).length≤8;rw[rl];omega
  lw:=ri _
  sg:=by show (iniV p p.cs.length).length≤8;rw[rl];omega
  sw:=ri _
  ev:=Nat.le_refl _
  rf:=Nat.le_refl _ }
def ranR (p:Pg) (bd:Int) (l:List (Int×Int)):Int ⊕ Ra:=
 if stdE p bd≠0 then .inl (stdE p bd) else if 512<l.length then .inl 4 else runR p bd (st0 p bd) l
end Go.Am.E

set_option maxRecDepth 10000
set_option maxHeartbeats 4000000
namespace Go.Am.E
open Go.Proofs Go.Ex Go.Rc
def bkF (i:Nat) (x:In):Option Unit:=if (x.op=4∨x.op=5)∧x.n≤i then some () else none
abbrev fbx (f:Str×List In):TObj:=.plain (.box [.dat (.str f.1),.dat (.sl (f.2.map ID))])
theorem run203 (f:Str×List In) (hf:f.2.length<1000000000):K 203 [.dat (FD f)] []=some (.dat (.bool (scan bkF f.2 0).isSome),[]):=by
 obtain⟨nm,l⟩:=f;simp only at hf ⊢;refine ce rfl ?_;simp[FD];simp only[zaa7]
 refine (zvb7 (live:=[1,3]) (drop:=[]) l bkF (by omega) (fun k=>⟨[(1,.ref ((2,0),0,0) 0),(3,.dat (N k))],[((2,0),fbx (nm,l))]⟩)
  (fun q=>q.1=.exit 0∧hd [] [] q.2=some ⟨[],[((2,0),fbx (nm,l))]⟩) (fun i q=>q.1=.ret∧endK [.t 2] false 0 q=some (.dat (.bool true),[]))
  (fun i y s h1 h2 h3 ix hs=>?_) (fun s hs=>?_) _ (by simp)).mono ?_
 ·by_cases c4:y.op=4
  ·by_cases c6:y.n≤i<;>simp[hs,h1,h2,h3,ix,bkF,c4,c6]
  ·by_cases c5:y.op=5
   ·by_cases c6:y.n≤i<;>simp[hs,h1,h2,h3,ix,bkF,c4,c5,c6]
   ·simp[hs,h1,h2,h3,ix,bkF,c4,c5]
 ·simp[hs]
 ·rintro⟨y,s⟩ hq;cases c:scan bkF l 0<;>rw[c]at hq<;>obtain⟨rfl,hq⟩:=hq<;>simp[hq]
def cn21 (l:List In):Nat:=(l.filter fun x=>decide (x.op=21)).length
theorem cn21_step {l:List In} {i:Nat} {x:In} (h:l[i]?=some x):cn21 (l.take (i+1))=cn21 (l.take i)+if x.op=21 then 1 else 0:=by
 unfold cn21;rw[List.take_add_one,h,Option.toList_some,List.filter_append,List.length_append];split<;>rename_i c<;>simp[c]
theorem cn21_le (l:List In):cn21 l≤l.length:=List.length_filter_le _ _
def spw (l:List In) (bd:Int):Int:=if 0<cn21 l∧(scan bkF l 0).isSome=true then max (cn21 l:Int) bd else cn21 l
theorem run135 (f:Str×List In) (bd:Int) (hf:f.2.length<1000000000):K 135 [.dat (FD f),.dat (N bd)] []=some (.dat (N (spw f.2 bd)),[]):=by
 have hb:=run203 f hf;obtain⟨nm,l⟩:=f;simp only at hf ⊢;have hl:=cn21_le l;simp[FD]at hb;refine ce rfl ?_;simp[FD];simp only[zaa7]
 refine (zhb7 (live:=[1,2,5,6]) (drop:=[]) l (by omega) (fun k=>⟨[(1,.dat (N bd)),(2,.ref ((3,0),0,0) 0),(5,.dat (N (cn21 (l.take k)))),(6,.dat (N k))],[((3,0),fbx (nm,l))]⟩)
  (fun _ q=>q.1=.exit 0∧hd [1,2,5] [] q.2=some ⟨[(1,.dat (N bd)),(2,.ref ((3,0),0,0) 0),(5,.dat (N (cn21 l)))],[((3,0),fbx (nm,l))]⟩)
  (fun i y s h1 h2 h3 ix hs=>?_) (fun s hs=>?_) _ (by simp[cn21])).mono ?_
 ·have e:=cn21_step h1;have hc:cn21 (l.take i)≤i:=Nat.le_trans (cn21_le _) (by simp;omega);have w:IntKind.wrap .i64 ((cn21 (l.take i):Int)+1)=cn21 (l.take i)+1:=wrap_i64 (by omega) (by omega);by_cases c:y.op=21
  ·rw[if_pos c]at e;simp[hs,h1,h2,h3,ix,c,e,w]
  ·rw[if_neg c,Nat.add_zero]at e;simp[hs,h1,h2,h3,ix,c,e]
 ·have e:l.take l.length=l:=List.take_length;simp[hs,e]
 ·rintro⟨y,s⟩ ⟨rfl,hq⟩;unfold spw;by_cases c:0<cn21 l
  ·have c':(0:Int)<cn21 l:=by omega
   cases k:(scan bkF l 0).isSome
   ·rw[k]at hb;simp[hq,c,c',hb]
   ·rw[k]at hb;simp[hq,c,c',hb];split<;>omega
  ·have c':¬(0:Int)<cn21 l:=by omega
   simp[hq,c,c']
def cdF (p:Pg) (k:Int):List In:=((p.fs[k.toNat]?).map (·.2)).getD []
def nL (p:Pg) (bd:Int):Nat→Int
 |0=>p.ts.length
 |k+1=>match p.ts[k]? with
  |some t=>if 0≤t.1∧t.1<p.fs.length then IntKind.wrap .i64 (nL p bd k+spw (cdF p t.1) bd) else nL p bd k
  |none=>nL p bd k
def lnF (p:Pg) (bd:Int) (i:Nat) (x:In):Option Unit:=if x.op=21∧0≤x.o∧x.o<p.fs.length∧0<spw (cdF p x.o) bd then some () else none
def lnG (p:Pg) (bd:Int) (i:Nat) (F:Str×List In):Option Unit:=scan (lnF p bd) F.2 0
abbrev pbx (p:Pg):TObj:=.plain (.box ((PDl p).map AVal.dat))
abbrev E8 (p:Pg) (bd n:Int):Env:=[(1,.dat (N bd)),(2,.ref ((3,0),0,0) 0),(5,.dat (N n))]
theorem loop70_1 (p:Pg) (bd n:Int) (hfl:p.fs.length<1000000000) (hcd:∀F∈p.fs,F.2.length<1000000000) (i:Nat) (F:Str×List In) (hi:p.fs[i]?=some F) (s0:St) (h0:hd [1,2,5,8,9] [2] s0=some ⟨E8 p bd n++[(8,.dat (N i)),(9,.dat (N (0:Nat)))],[((3,0),pbx p)]⟩):
  Ev (zga7 (exec K l70_1) s0) (oQ (fun q=>q.1=.exit 4∧hd [1,2,5,8] [] q.2=some ⟨E8 p bd n++[(8,.dat (N i))],[((3,0),pbx p)]⟩) (fun _ q=>q.1=.ret∧endK [.t 4] false 0 q=some (.dat (.bool false),[])) (scan (lnF p bd) F.2 0)):=by
 have hF:=hcd F (List.mem_of_getElem? hi);have hi1:=(List.getElem?_eq_some_iff.1 hi).1;have hi2:p.fs[i]=F:=(List.getElem?_eq_some_iff.1 hi).2;have hi3:(i:Int)<p.fs.length:=by omega
 obtain⟨nm,l⟩:=F
 refine zvb7 (live:=[1,2,5,8,9]) (drop:=[2]) l (lnF p bd) (by simp only at hF;omega) (fun k=>⟨E8 p bd n++[(8,.dat (N i)),(9,.dat (N k))],[((3,0),pbx p)]⟩) _ _
  (fun j y s h1 h2 h3 ix hs=>?_) (fun s hs=>?_) s0 h0
 ·unfold lnF;by_cases c1:y.op=21;rotate_left
  ·simp[hs,h1,h2,h3,ix,hi,hi1,hi2,hi3,FD,c1]
  by_cases c2:0≤y.o;rotate_left
  ·simp[hs,h1,h2,h3,ix,hi,hi1,hi2,hi3,FD,c1,c2]
  by_cases c3:y.o<p.fs.length;rotate_left
  ·simp[hs,h1,h2,h3,ix,hi,hi1,hi2,hi3,FD,c1,c2,c3]
  obtain⟨m,hm⟩:∃m:Nat,y.o=m:=⟨y.o.toNat,by omega⟩;have m1:m<p.fs.length:=by omega
  have m2:p.fs[m]?=some p.fs[m]:=by simp
  have h135:=run135 p.fs[m] bd (hcd _ (by simp));have e:cdF p y.o=p.fs[m].2:=by unfold cdF;rw[hm,Int.toNat_natCast,m2];rfl
  simp[FD]at h135;by_cases c4:0<spw p.fs[m].2 bd
  ·simp[hs,h1,h2,h3,ix,hi,hi1,hi2,hi3,FD,c1,c2,c3,m1,m2,h135,e,c4];simp[hm,m1,m2,hi,hi1,hi2,hi3,FD,h135,c4,ix]
  ·simp[hs,h1,h2,h3,ix,hi,hi1,hi2,hi3,FD,c1,c2,c3,m1,m2,h135,e,c4];simp[hm,m1,m2,hi,hi1,hi2,hi3,FD,h135,c4,ix]
 ·simp[hs,hi,hi1,hi2,hi3,FD]
theorem loop70_0 (p:Pg) (bd:Int) (hfl:p.fs.length<1000000000) (hcd:∀F∈p.fs,F.2.length<1000000000) (htl:p.ts.length<1000000000) (s0:St) (h0:hd [1,2,5,6] [] s0=some ⟨E8 p bd (nL p bd 0)++[(6,.dat (N (0:Nat)))],[((3,0),pbx p)]⟩):
  Ev (zga7 (exec K l70_0) s0) (fun q=>q.1=.exit 0∧hd [1,2,5] [] q.2=some ⟨E8 p bd (nL p bd p.ts.length),[((3,0),pbx p)]⟩):=by
 refine zhb7 (live:=[1,2,5,6]) (drop:=[]) p.ts (by omega) (fun k=>⟨E8 p bd (nL p bd k)++[(6,.dat (N k))],[((3,0),pbx p)]⟩)
  (fun _ q=>q.1=.exit 0∧hd [1,2,5] [] q.2=some ⟨E8 p bd (nL p bd p.ts.length),[((3,0),pbx p)]⟩)
  (fun i y s h1 h2 h3 ix hs=>?_) (fun s hs=>?_) s0 h0
 ·have e:nL p bd (i+1)=if 0≤y.1∧y.1<p.fs.length then IntKind.wrap .i64 (nL p bd i+spw (cdF p y.1) bd) else nL p bd i:=by simp only[nL,h1]
  obtain⟨a,b⟩:=y;simp only at e;by_cases c2:0≤a;rotate_left
  ·simp[c2]at e;simp[hs,h1,h2,h3,ix,NP,c2,e]
  by_cases c3:a<p.fs.length;rotate_left
  ·simp[c2,c3]at e;simp[hs,h1,h2,h3,ix,NP,c2,c3,e]
  obtain⟨m,hm⟩:∃m:Nat,a=m:=⟨a.toNat,by omega⟩;have m1:m<p.fs.length:=by omega
  have m2:p.fs[m]?=some p.fs[m]:=by simp
  have h135:=run135 p.fs[m] bd (hcd _ (by simp));have e2:cdF p a=p.fs[m].2:=by unfold cdF;rw[hm,Int.toNat_natCast,m2];rfl
  rw[e2,if_pos ⟨c2,c3⟩]at e;simp[FD]at h135;generalize spw p.fs[m].2 bd=w at *
  subst hm;simp[hs,h1,h2,h3,ix,NP,c2,c3,m1,m2,h135,e,FD]
 ·simp[hs]
theorem loop70_2 (p:Pg) (bd n:Int) (hfl:p.fs.length<1000000000) (hcd:∀F∈p.fs,F.2.length<1000000000) (s0:St) (h0:hd [1,2,5,8] [2] s0=some ⟨E8 p bd n++[(8,.dat (N (0:Nat)))],[((3,0),pbx p)]⟩):
  Ev (zga7 (exec K l70_2) s0) (oQ (fun q=>q.1=.exit 2∧hd [5] [] q.2=some ⟨[(5,.dat (N n))],[((3,0),pbx p)]⟩) (fun _ q=>q.1=.ret∧endK [.t 4] false 0 q=some (.dat (.bool false),[])) (scan (lnG p bd) p.fs 0)):=by
 refine zvb7 (live:=[1,2,5,8]) (drop:=[2]) p.fs (lnG p bd) (by omega) (fun k=>⟨E8 p bd n++[(8,.dat (N k))],[((3,0),pbx p)]⟩) _ _
  (fun i F s h1 h2 h3 ix hs=>?_) (fun s hs=>?_) s0 h0
 ·simp[hs,h1,h2,h3];simp only[zaa7];refine (loop70_1 p bd n hfl hcd i F h1 _ (by simp)).mono ?_;rintro⟨y,s⟩ hq;unfold lnG;cases c:scan (lnF p bd) F.2 0<;>rw[c]at hq<;>obtain⟨rfl,hq⟩:=hq
  ·simp[hq,ix]
  ·simp[hq]
 ·simp[hs]
def lonB (p:Pg) (bd:Int):Bool:=if (scan (lnG p bd) p.fs 0).isSome then false else decide (nL p bd p.ts.length≤5)
theorem run70 (p:Pg) (bd:Int) (hfl:p.fs.length<1000000000) (hcd:∀F∈p.fs,F.2.length<1000000000) (htl:p.ts.length<1000000000):K 70 [.dat (PD p),.dat (N bd)] []=some (.dat (.bool (lonB p bd)),[]):=by
 refine ce rfl ?_;simp;simp only[zaa7];refine (loop70_0 p bd hfl hcd htl _ (by simp[nL])).mono ?_;rintro⟨y,s⟩ ⟨rfl,hq⟩;unfold lonB;generalize nL p bd p.ts.length=n at *
 simp[hq];simp only[zaa7];refine (loop70_2 p bd n hfl hcd _ (by simp)).mono ?_;rintro⟨y,s⟩ hq;cases c:scan (lnG p bd) p.fs 0<;>rw[c]at hq<;>obtain⟨rfl,hq⟩:=hq<;>simp[hq]
def smF (i:Nat) (F:Str×List In):Option Unit:=if 12<F.2.length then some () else none
theorem smF_scan:∀(l:List (Str×List In)) (i:Nat),scan smF l i=none→∀F∈l,F.2.length≤12
 |[],i,h,F,hF=>by cases hF
 |G::r,i,h,F,hF=>by
  simp only[scan,smF]at h;by_cases c:12<G.2.length
  ·rw[if_pos c]at h;cases h
  ·rw[if_neg c]at h;rcases List.mem_cons.1 hF with rfl|hF
   ·omega
   ·exact smF_scan r _ h F hF
theorem run32 (p:Pg) (bd:Int):∃b,K 32 [.dat (PD p),.dat (N bd)] []=some (.dat (.bool b),[])∧(b=true→p.fs.length≤4∧p.ts.length≤4∧p.vs.length≤8∧p.ms.length≤4∧p.cs.length≤4∧∀F∈p.fs,F.2.length≤12):=by
 by_cases c1:4<p.fs.length
 ·have c1':(4:Int)<p.fs.length:=by omega
  exact⟨false,ce rfl (by simp[c1']),by simp⟩
 have c1':¬(4:Int)<p.fs.length:=by omega
 by_cases c2:4<p.ts.length
 ·have c2':(4:Int)<p.ts.length:=by omega
  exact⟨false,ce rfl (by simp[c1',c2']),by simp⟩
 have c2':¬(4:Int)<p.ts.length:=by omega
 by_cases c3:8<bd
 ·exact⟨false,ce rfl (by simp[c1',c2',c3]),by simp⟩
 by_cases c4:8<p.vs.length
 ·have c4':(8:Int)<p.vs.length:=by omega
  exact⟨false,ce rfl (by simp[c1',c2',c3,c4']),by simp⟩
 have c4':¬(8:Int)<p.vs.length:=by omega
 by_cases c5:4<p.ms.length
 ·have c5':(4:Int)<p.ms.length:=by omega
  exact⟨false,ce rfl (by simp[c1',c2',c3,c4',c5']),by simp⟩
 have c5':¬(4:Int)<p.ms.length:=by omega
 by_cases c6:4<p.cs.length
 ·have c6':(4:Int)<p.cs.length:=by omega
  exact⟨false,ce rfl (by simp[c1',c2',c3,c4',c5',c6']),by simp⟩
 have c6':¬(4:Int)<p.cs.length:=by omega
 cases c7:scan smF p.fs 0 with
 |some u=>
  refine⟨false,ce rfl ?_,by simp⟩;simp[c1',c2',c3,c4',c5',c6'];simp only[zaa7]
  refine (zvb7 (live:=[1,2,5]) (drop:=[]) p.fs smF (by omega) (fun k=>⟨[(1,.dat (N bd)),(2,.ref ((3,0),0,0) 0),(5,.dat (N k))],[((3,0),pbx p)]⟩)
   (fun q=>q.1=.exit 0) (fun _ q=>q.1=.ret∧endK [.t 4] false 0 q=some (.dat (.bool false),[]))
   (fun i F s h1 h2 h3 ix hs=>?_) (fun s hs=>?_) _ (by simp)).mono ?_
  ·obtain⟨nm,l⟩:=F;unfold smF;by_cases c:12<l.length
   ·have c':(12:Int)<l.length:=by omega
    simp[hs,h1,h2,h3,ix,FD,c,c']
   ·have c':¬(12:Int)<l.length:=by omega
    simp[hs,h1,h2,h3,ix,FD,c,c']
  ·simp[hs]
  ·rintro⟨y,s⟩ hq;rw[c7]at hq;obtain⟨rfl,hq⟩:=hq;simp[hq]
 |none=>
  have hcd:=smF_scan _ _ c7;have h70:=run70 p bd (by omega) (fun F hF=>by have:=hcd F hF;omega) (by omega);refine⟨lonB p bd,ce rfl ?_,fun _=>⟨by omega,by omega,by omega,by omega,by omega,hcd⟩⟩;simp[c1',c2',c3,c4',c5',c6'];simp only[zaa7]
  refine (zvb7 (live:=[1,2,5]) (drop:=[]) p.fs smF (by omega) (fun k=>⟨[(1,.dat (N bd)),(2,.ref ((3,0),0,0) 0),(5,.dat (N k))],[((3,0),pbx p)]⟩)
   (fun q=>q.1=.exit 0∧hd [1,2] [] q.2=some ⟨[(1,.dat (N bd)),(2,.ref ((3,0),0,0) 0)],[((3,0),pbx p)]⟩) (fun _ q=>q.1=.ret∧endK [.t 4] false 0 q=some (.dat (.bool false),[]))
   (fun i F s h1 h2 h3 ix hs=>?_) (fun s hs=>?_) _ (by simp)).mono ?_
  ·obtain⟨nm,l⟩:=F;unfold smF;by_cases c:12<l.length
   ·have c':(12:Int)<l.length:=by omega
    simp[hs,h1,h2,h3,ix,FD,c,c']
   ·have c':¬(12:Int)<l.length:=by omega
    simp[hs,h1,h2,h3,ix,FD,c,c']
  ·simp[hs]
  ·rintro⟨y,s⟩ hq;rw[c7]at hq;obtain⟨rfl,hq⟩:=hq;simp[hq,h70]
end Go.Am.E

set_option maxRecDepth 10000
set_option maxHeartbeats 8000000
namespace Go.Am.E
open Go.Proofs Go.Ex Go.Rc
attribute [local simp] MsD
abbrev WDl (p:Pg) (bd:Int) (l:List (Int×Int)):List Dat:=PDl p++[N bd,.sl (l.map NP)]
theorem run9 (p:Pg) (bd:Int) (l:List (Int×Int)):∃b,K 9 [.dat (.agg (WDl p bd l))] []=some (.dat (.bool b),[])∧(b=true→Fit p∧l.length≤14):=by
 obtain⟨b,h1,h2⟩:=run32 p bd;cases b
 ·refine⟨false,ce rfl ?_,by simp⟩;simp[h1]
 ·obtain⟨a1,a2,a3,a4,a5,a6⟩:=h2 rfl;have hf:Fit p:=⟨by omega,by omega,by omega,by omega,fun F hF=>by have:=a6 F hF;omega⟩;by_cases c:l.length≤14
  ·have c':(l.length:Int)≤14:=by omega
   exact⟨true,ce rfl (by simp[h1,c']),fun _=>⟨hf,c⟩⟩
  ·have c':¬(l.length:Int)≤14:=by omega
   exact⟨false,ce rfl (by simp[h1,c']),by simp⟩
theorem run11:K 11 [] []=some (.dat (.bool true),[]):=zhf7 rfl rfl
def plM (l:List Msg) (e:Int):Nat:=match ixM e l with
 |some k=>k+1
 |none=>0
theorem run26 (l:List Msg) (hl:l.length<1000000) (e:Int):K 26 [.dat (.sl (l.map MsD)),.dat (N e)] []=some (.dat (N (plM l e)),[]):=by
 have key:∀(r:List Msg) (k:Nat),(scan (fun i (m:Msg)=>if m.ev=e then some (i+1) else none) r k)=(ixM e r).map (·+k+1):=by
  intro r
  induction r with
  |nil=>intro k;rfl
  |cons m r ih=>
   intro k;by_cases c:m.ev=e
   ·simp[scan,ixM,c]
   ·simp only[scan,ixM,if_neg c,ih (k+1)];cases ixM e r<;>simp;omega
 have key0:=key l 0;refine ce rfl ?_;simp;simp only[zaa7]
 refine (zvb7 (live:=[1,7,8,9]) (drop:=[7]) l (fun i (m:Msg)=>if m.ev=e then some (i+1) else none) (by omega) (fun k=>⟨[(1,.dat (N e)),(7,.dat (.sl (l.map MsD))),(8,.dat (N l.length)),(9,.dat (N k))],[]⟩)
  (fun q=>q.1=.exit 0∧∃os,hd [] [] q.2=some ⟨[],os⟩) (fun (i:Nat) q=>q.1=.ret∧endK [.t 4] false 0 q=some (.dat (N i),[]))
  (fun i m s' g1 g2 g3 ix hs=>?_) (fun s' hs=>?_) _ (by simp)).mono ?_
 ·obtain⟨a,b,c⟩:=m;by_cases h:a=e
  ·subst h;simp[hs,g1,g2,g3,ix]
  ·simp[hs,g1,g2,g3,ix,h]
 ·simp[hs]
 ·rintro⟨y,s'⟩ hq;rw[key0]at hq;unfold plM;cases hx:ixM e l<;>rw[hx]at hq
  ·obtain⟨rfl,os,hq⟩:=hq;dsimp only at hq;simp[hq]
  ·obtain⟨rfl,hq⟩:=hq;simp at hq;simp[hq]
theorem run23 (l:List Th) (hl:l.length<1000000) (id:Int):K 23 [.dat (.sl (l.map TD)),.dat (N id)] []=some (fndP l id,[]):=by
 have key:∀(r:List Th) (k:Nat),(scan (fun i (t:Th)=>if t.id=id then some i else none) r k)=(fndT r id).map (·+k):=by
  intro r
  induction r with
  |nil=>intro k;rfl
  |cons m r ih=>
   intro k;by_cases c:m.id=id
   ·simp[scan,fndT,c]
   ·simp only[scan,fndT,if_neg c,ih (k+1)];cases fndT r id<;>simp;omega
 have key0:=key l 0;refine ce rfl ?_;simp;simp only[zaa7]
 refine (zvb7 (live:=[0,1,6]) (drop:=[]) l (fun i (t:Th)=>if t.id=id then some i else none) (by omega) (fun k=>⟨[(0,.dat (.sl (l.map TD))),(1,.dat (N id)),(6,.dat (N k))],[]⟩)
  (fun q=>q.1=.exit 0∧∃os,hd [] [] q.2=some ⟨[],os⟩) (fun (i:Nat) q=>q.1=.ret∧endK [.t 4,.t 5] false 0 q=some (.tup [.dat (N i),.dat (.bool true)],[]))
  (fun i m s' g1 g2 g3 ix hs=>?_) (fun s' hs=>?_) _ (by simp)).mono ?_
 ·by_cases h:m.id=id
  ·subst h;simp[hs,g1,g2,g3,ix]
  ·simp[hs,g1,g2,g3,ix,h]
 ·simp[hs]
 ·rintro⟨y,s'⟩ hq;rw[key0]at hq;unfold fndP;cases hx:fndT l id<;>rw[hx]at hq
  ·obtain⟨rfl,os,hq⟩:=hq;dsimp only at hq;simp[hq]
  ·obtain⟨rfl,hq⟩:=hq;simp at hq;simp[hq]
end Go.Am.E

set_option maxRecDepth 10000
set_option maxHeartbeats 8000000
namespace Go.Am.E
open Go.Proofs Go.Ex Go.Rc
attribute [local simp] same_d same_r same_p same_n same_c ztc7 zuc7 zsc7 pairK zyc7 chgOf slim sameAt meets updT
def rdsK (k:Int):Bool:=decide (k=1)||(decide (k=8)||(decide (k=5)||decide (k=6)))
def wroK (k:Int):Bool:=decide (k=2)||(decide (k=3)||(decide (k=4)||decide (k=5)))
def ordK (k:Int):Bool:=decide (k=1)||(decide (k=2)||(decide (k=3)||(decide (k=5)||(decide (k=6)||decide (k=8)))))
def wiB (n m:Int):Bool:=decide (0≤n)&&decide (n<m)
def vaB (n:Int):Bool:=decide (-2147483648≤n)&&decide (n≤2147483647)
theorem run63 (k:Int):K 63 [.dat (N k)] []=some (.dat (.bool (rdsK k)),[]):=ce rfl (by
 unfold rdsK;by_cases a:k=1
 ·simp[a]
 by_cases b:k=8
 ·simp[a,b]
 by_cases c:k=5
 ·simp[a,b,c]
 ·simp[a,b,c])
theorem run132 (k:Int):K 132 [.dat (N k)] []=some (.dat (.bool (wroK k)),[]):=ce rfl (by
 unfold wroK;by_cases a:k=2
 ·simp[a]
 by_cases b:k=3
 ·simp[a,b]
 by_cases c:k=4
 ·simp[a,b,c]
 ·simp[a,b,c])
theorem run130 (k:Int):K 130 [.dat (N k)] []=some (.dat (.bool (ordK k)),[]):=ce rfl (by
 unfold ordK;by_cases a:k=1
 ·simp[a]
 by_cases b:k=2
 ·simp[a,b]
 by_cases c:k=3
 ·simp[a,b,c]
 by_cases d:k=5
 ·simp[a,b,c,d]
 by_cases e:k=6
 ·simp[a,b,c,d,e]
 ·simp[a,b,c,d,e])
theorem run131 (n:Int):K 131 [.dat (N n)] []=some (.dat (.bool (vaB n)),[]):=ce rfl (by
 unfold vaB;by_cases a : -2147483648≤n<;>simp[a])
theorem run133 (n m:Int):K 133 [.dat (N n),.dat (N m)] []=some (.dat (.bool (wiB n m)),[]):=ce rfl (by
 unfold wiB;by_cases a:0≤n<;>simp[a])
theorem run126 (n:Int):K 126 [.dat (N n)] []=some (.dat (.bool (decide (n<0))),[]):=ce rfl (by simp)
def obE (e:Evt):Bool:=if e.kind=7 then decide (e.obj=0) else if e.kind=9∨e.kind=10∨e.kind=11 then wiB e.obj 4 else if e.kind=12∨e.kind=13∨e.kind=14∨e.kind=15 then wiB e.obj 4
 else if e.kind=16∨e.kind=17 then decide (0≤e.obj) else wiB e.obj 8
theorem run127 (e:Evt):K 127 [.dat (ED e)] []=some (.dat (.bool (obE e)),[]):=by
 have h:=fun n m=>run133 n m
 obtain⟨ag,idx,kind,obj,mux,ent,ord,rd,wr⟩:=e;refine ce rfl ?_;unfold obE;dsimp only;by_cases a7:kind=7
 ·simp[a7]
 by_cases a9:kind=9
 ·simp[a9,h]
 by_cases a10:kind=10
 ·simp[a10,h]
 by_cases a11:kind=11
 ·simp[a11,h]
 by_cases a12:kind=12
 ·simp[a12,h]
 by_cases a13:kind=13
 ·simp[a13,h]
 by_cases a14:kind=14
 ·simp[a14,h]
 by_cases a15:kind=15
 ·simp[a15,h]
 by_cases a16:kind=16
 ·simp[a16]
 by_cases a17:kind=17
 ·simp[a17]
 simp[a7,a9,a10,a11,a12,a13,a14,a15,a16,a17,h]
def rsE (e:Evt):Bool:=if e.kind=11∨e.kind=14 then wiB e.rd 2 else if e.kind=15 then decide (0≤e.rd) else vaB e.rd&&(rdsK e.kind||decide (e.rd=0))
theorem run128 (e:Evt):K 128 [.dat (ED e)] []=some (.dat (.bool (rsE e)),[]):=by
 have h:=fun n m=>run133 n m
 have h1:=run131 e.rd;have h2:=run63 e.kind;obtain⟨ag,idx,kind,obj,mux,ent,ord,rd,wr⟩:=e;dsimp only at h1 h2;refine ce rfl ?_;unfold rsE;dsimp only;by_cases a11:kind=11
 ·simp[a11,h]
 by_cases a14:kind=14
 ·simp[a14,h]
 by_cases a15:kind=15
 ·simp[a15]
 generalize vaB rd=v at *
 generalize rdsK kind=r at *
 cases v
 ·simp[a11,a14,a15,h1]
 cases r
 ·simp[a11,a14,a15,h1,h2]
 ·simp[a11,a14,a15,h1,h2]
def enE (e:Evt):Bool:=if e.kind=1∨e.kind=8 then decide (-1≤e.ent) else if e.kind=3∨e.kind=4 then decide (0≤e.ent) else decide (e.ent = -1)
theorem run129 (e:Evt):K 129 [.dat (ED e)] []=some (.dat (.bool (enE e)),[]):=by
 obtain⟨ag,idx,kind,obj,mux,ent,ord,rd,wr⟩:=e;refine ce rfl ?_;unfold enE;dsimp only;by_cases a1:kind=1
 ·simp[a1]
 by_cases a8:kind=8
 ·simp[a8]
 by_cases a3:kind=3
 ·simp[a3]
 by_cases a4:kind=4
 ·simp[a4]
 simp[a1,a8,a3,a4]
def vaE (e:Evt):Bool:=
 if e.kind<1∨17<e.kind then false
 else if decide (e.ag<0)≠decide (e.kind=4) then false
 else if e.idx<0 then false
 else if obE e=false then false
 else if rsE e=false then false
 else if enE e=false then false
 else if e.ord<0∨2<e.ord then false
 else if ordK e.kind=false∧e.ord≠0 then false
 else if vaB e.wr=false then false
 else if wroK e.kind=false∧e.wr≠0 then false
 else if e.kind=12 then wiB e.mux 4
 else decide (e.mux = -1)
theorem run62 (e:Evt):K 62 [.dat (ED e)] []=some (.dat (.bool (vaE e)),[]):=by
 have h126:=run126 e.ag;have h127:=run127 e;have h128:=run128 e;have h129:=run129 e;have h130:=run130 e.kind;have h131:=run131 e.wr;have h132:=run132 e.kind;have h133:=run133 e.mux 4;unfold vaE;generalize obE e=ob at *
 generalize rsE e=rs at *
 generalize enE e=en at *
 obtain⟨ag,idx,kind,obj,mux,ent,ord,rd,wr⟩:=e;dsimp only at *
 generalize ordK kind=ok at *
 generalize vaB wr=va at *
 generalize wroK kind=wk at *
 generalize wiB mux 4=wi at *
 generalize hF:decide (ag<0)=F at *
 refine ce rfl ?_;by_cases a1:kind<1
 ·simp[a1]
 by_cases a2:17<kind
 ·simp[a1,a2]
 by_cases a3:kind=4
 ·cases F
  ·simp[a3,h126]
  ·subst a3;by_cases a4:idx<0
   ·simp[h126,a4]
   cases ob
   ·simp[h126,a4,h127]
   cases rs
   ·simp[h126,a4,h127,h128]
   cases en
   ·simp[h126,a4,h127,h128,h129]
   by_cases a5:ord<0
   ·simp[h126,a4,h127,h128,h129,a5]
   by_cases a6:2<ord
   ·simp[h126,a4,h127,h128,h129,a5,a6]
   by_cases a7:ok=false∧ord≠0
   ·obtain⟨rfl,a7⟩:=a7;simp[h126,a4,h127,h128,h129,a5,a6,h130,a7]
   have b7:ok=true∨(ok=false∧ord=0):=by cases ok<;>simp at a7 ⊢;exact a7
   cases va
   ·rcases b7 with rfl|⟨rfl,rfl⟩<;>simp[h126,a4,h127,h128,h129,a5,a6,h130,h131]
   by_cases a8:wk=false∧wr≠0
   ·obtain⟨rfl,a8⟩:=a8;rcases b7 with rfl|⟨rfl,rfl⟩<;>simp[h126,a4,h127,h128,h129,a5,a6,h130,h131,h132,a8]
   have b8:wk=true∨(wk=false∧wr=0):=by cases wk<;>simp at a8 ⊢;exact a8
   rcases b7 with rfl|⟨rfl,rfl⟩<;>rcases b8 with rfl|⟨rfl,rfl⟩<;>simp[h126,a4,h127,h128,h129,a5,a6,h130,h131,h132]
 ·cases F
  ·by_cases a4:idx<0
   ·simp[a1,a2,a3,h126,a4]
   cases ob
   ·simp[a1,a2,a3,h126,a4,h127]
   cases rs
   ·simp[a1,a2,a3,h126,a4,h127,h128]
   cases en
   ·simp[a1,a2,a3,h126,a4,h127,h128,h129]
   by_cases a5:ord<0
   ·simp[a1,a2,a3,h126,a4,h127,h128,h129,a5]
   by_cases a6:2<ord
   ·simp[a1,a2,a3,h126,a4,h127,h128,h129,a5,a6]
   by_cases a7:ok=false∧ord≠0
   ·obtain⟨rfl,a7⟩:=a7;simp[a1,a2,a3,h126,a4,h127,h128,h129,a5,a6,h130,a7]
   have b7:ok=true∨(ok=false∧ord=0):=by cases ok<;>simp at a7 ⊢;exact a7
   cases va
   ·rcases b7 with rfl|⟨rfl,rfl⟩<;>simp[a1,a2,a3,h126,a4,h127,h128,h129,a5,a6,h130,h131]
   by_cases a8:wk=false∧wr≠0
   ·obtain⟨rfl,a8⟩:=a8;rcases b7 with rfl|⟨rfl,rfl⟩<;>simp[a1,a2,a3,h126,a4,h127,h128,h129,a5,a6,h130,h131,h132,a8]
   have b8:wk=true∨(wk=false∧wr=0):=by cases wk<;>simp at a8 ⊢;exact a8
   by_cases a9:kind=12
   ·subst a9;rcases b7 with rfl|⟨rfl,rfl⟩<;>rcases b8 with rfl|⟨rfl,rfl⟩<;>simp[a1,a2,a3,h126,a4,h127,h128,h129,a5,a6,h130,h131,h132,h133]
   ·rcases b7 with rfl|⟨rfl,rfl⟩<;>rcases b8 with rfl|⟨rfl,rfl⟩<;>simp[a1,a2,a3,h126,a4,h127,h128,h129,a5,a6,h130,h131,h132,a9]
  ·simp[a1,a2,a3,h126]
def wrE (e:Evt):Bool:=vaE e&&(decide (e.kind=2)||(decide (e.kind=5)||decide (e.kind=4)))
def rdE' (e:Evt):Bool:=vaE e&&rdsK e.kind
theorem run24 (e:Evt):K 24 [.dat (ED e)] []=some (.dat (.bool (wrE e)),[]):=by
 have h:=run62 e;unfold wrE;generalize vaE e=v at *
 obtain⟨ag,idx,kind,obj,mux,ent,ord,rd,wr⟩:=e;refine ce rfl ?_;cases v
 ·simp[h]
 by_cases a:kind=2
 ·subst a;simp[h]
 by_cases b:kind=5
 ·subst b;simp[h]
 ·simp[h,a,b]
theorem run25 (e:Evt):K 25 [.dat (ED e)] []=some (.dat (.bool (rdE' e)),[]):=by
 have h:=run62 e;have h2:=run63 e.kind;unfold rdE';generalize vaE e=v at *
 generalize rdsK e.kind=r at *
 obtain⟨ag,idx,kind,obj,mux,ent,ord,rd,wr⟩:=e;dsimp only at h2;refine ce rfl ?_;cases v
 ·simp[h]
 ·simp[h,h2]
end Go.Am.E

set_option maxRecDepth 10000
set_option maxHeartbeats 16000000
namespace Go.Am.E
open Go.Proofs Go.Ex Go.Rc
attribute [local simp] same_d same_r same_p same_n same_c ztc7 zuc7 zsc7 pairK zyc7 chgOf slim sameAt meets updT
def Fol (s t:Ra):Prop:=∀(i:Nat) (a:Th),s.th[i]?=some a→∃(j:Nat) (w w':List Int),fndT t.th a.id=some j∧t.vs[j]?=some w'∧s.vs[i]?=some w∧w'.length=w.length∧w.length≤t.ms.length∧∀d x y,w[d]?=some x→w'[d]?=some y→plM (gt2 t.ms d) x≤plM (gt2 t.ms d) y
abbrev E22 (n k:Nat) (th:List Th):Env:=[(2,.ref ((3,0),0,0) 0),(3,.ref ((4,0),0,0) 0),(11,.dat (.sl (th.map TD))),(12,.dat (N n)),(13,.dat (N k))]
abbrev X22 (s t:Ra):zsa7:=[((3,0),rbx s),((4,0),rbx t)]
theorem loop22_0 (s t:Ra) (i j:Nat) (w w':List Int) (hw:s.vs[i]?=some w) (hw':t.vs[j]?=some w') (hl:w'.length=w.length) (hm:w.length≤t.ms.length) (hwl:w.length<1000000) (hml:∀l∈t.ms,l.length<1000000) (hx:Ix i∧Ix j)
  (H:∀d x y,w[d]?=some x→w'[d]?=some y→plM (gt2 t.ms d) x≤plM (gt2 t.ms d) y) (os:zsa7) (hos:gT os (3,0)=some (rbx s)∧gT os (4,0)=some (rbx t)) (st:St)
  (hs:hd [2,3,5,7,11,12,13,74,75] [] st=some ⟨[(2,.ref ((3,0),0,0) 0),(3,.ref ((4,0),0,0) 0),(5,.dat (N i)),(7,.dat (N j)),(11,.dat (.sl (s.th.map TD))),(12,.dat (N s.th.length)),(13,.dat (N i)),(74,.dat (N w.length)),(75,.dat (N 0))],os⟩):
  Ev (zga7 (exec K l22_0) st) (fun q=>q.1=.exit 2∧hd [2,3,11,12,13] [] q.2=some ⟨E22 s.th.length i s.th,os⟩):=by
 refine (zhb7 (live:=[2,3,5,7,11,12,13,74,75]) (drop:=[]) w (by omega) (fun k=>⟨[(2,.ref ((3,0),0,0) 0),(3,.ref ((4,0),0,0) 0),(5,.dat (N i)),(7,.dat (N j)),(11,.dat (.sl (s.th.map TD))),(12,.dat (N s.th.length)),(13,.dat (N i)),(74,.dat (N w.length)),(75,.dat (N k))],os⟩)
  (fun _ q=>q.1=.exit 2∧hd [2,3,11,12,13] [] q.2=some ⟨E22 s.th.length i s.th,os⟩)
  (fun d x s' g1 g2 g3 ix hs=>?_) (fun s' hs=>?_) _ hs)
 ·have hd:=(zca7 g1).2.2;obtain⟨y,hy⟩:∃y,w'[d]?=some y:=⟨_,List.getElem?_eq_getElem (show d<w'.length by omega)⟩;have hlm:=zec7 (show d<t.ms.length by omega);have hll:=hml _ (List.mem_of_getElem? hlm);have h1:=run26 _ hll x;have h2:=run26 _ hll y;have hH:=H d x y g1 hy;obtain⟨y1,y2,y3⟩:=zca7 hy;obtain⟨l1,l2,l3⟩:=zca7 hlm;obtain⟨w1,w2,w3⟩:=zca7 hw;obtain⟨v1,v2,v3⟩:=zca7 hw';have hH':¬((plM (gt2 t.ms d) y:Nat):Int)<(plM (gt2 t.ms d) x:Nat):=by omega
  generalize plM (gt2 t.ms d) x=a at *
  generalize plM (gt2 t.ms d) y=b at *
  simp[hs,g1,g2,g3,ix,hos.1,hos.2,hy,y1,y2,y3,hlm,l1,l2,l3,hw,w1,w2,w3,hw',v1,v2,v3,hx.1,hx.2,h1,h2,hH']
 ·simp[hs]
theorem run22 (s t:Ra) (hth:s.th.length<1000000) (htl:t.th.length<1000000) (htv:t.vs.length<1000000) (hwl:∀w∈s.vs,w.length<1000000) (hml:∀l∈t.ms,l.length<1000000) (H:Fol s t):K 22 [.dat (RaD s),.dat (RaD t)] []=some (.dat (.bool true),[]):=by
 refine ce rfl ?_;simp;simp only[zaa7]
 refine (zhb7 (live:=[2,3,11,12,13]) (drop:=[2,3,11]) s.th (by omega) (fun k=>⟨E22 s.th.length k s.th,X22 s t⟩) (fun _ q=>q.1=.exit 0∧∃os,hd [] [] q.2=some ⟨[],os⟩)
  (fun i a s' g1 g2 g3 ix hs=>?_) (fun s' hs=>?_) _ (by simp)).mono ?_
 ·obtain⟨j,w,w',f1,f2,f3,f4,f5,f6⟩:=H i a g1;have h23:=run23 t.th htl a.id;unfold fndP at h23;rw[f1]at h23;simp at h23;obtain⟨w1,w2,w3⟩:=zca7 f3;obtain⟨v1,v2,v3⟩:=zca7 f2;have jx:Ix j:=by unfold Ix;omega
  have n1:¬(t.vs.length:Int)≤j:=by omega
  have n2:¬(s.vs.length:Int)≤i:=by omega
  have n3:¬(t.ms.length:Int)<w.length:=by omega
  have n4:(w'.length:Int)=w.length:=by omega
  have hlp:=loop22_0 s t i j w w' f3 f2 f4 f5 (hwl _ (List.mem_of_getElem? f3)) hml ⟨ix,jx⟩ f6;simp[hs,g1,g2,g3,ix,h23,f1,f2,f3,w1,w2,w3,v1,v2,v3,jx,n1,n2,n3,n4];simp only[zaa7];refine (hlp [((3,0),rbx s),((4,0),rbx t),((7,0),.plain (.box (TDc a)))] (by simp) _ (by simp)).mono ?_;rintro⟨y,s'⟩ ⟨rfl,hq⟩;dsimp only at hq;simp[hq,ix]
 ·simp[hs]
 ·rintro⟨y,s'⟩ ⟨rfl,os,hq⟩;dsimp only at hq;simp[hq]
end Go.Am.E
