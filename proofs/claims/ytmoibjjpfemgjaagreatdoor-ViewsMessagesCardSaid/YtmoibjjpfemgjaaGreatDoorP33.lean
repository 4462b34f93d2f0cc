/- Parts of the proofs of the statement, joined and made short: V28 V29 V30 V31 V32 V12 EW43 V13 V33. -/
import Derived.Test.YtmoibjjpfemgjaaGreatDoorP32
import Derived.Test.YtmoibjjpfemgjaaGreatDoorP30
import Derived.Test.YtmoibjjpfemgjaaGreatDoorP31
set_option linter.unusedVariables false
set_option linter.unusedSimpArgs false
set_option linter.unusedSectionVars false
set_option maxRecDepth 10000
set_option maxHeartbeats 16000000
namespace Go.Am.E
open Go.Proofs Go.Ex Go.Rc
attribute [local simp] same_d same_r same_p same_n same_c ztc7 zuc7 zsc7 pairK zyc7 chgOf slim sameAt meets updT
structure Vl (p:Pg) (bd:Int) (s:Ra):Prop where
 va:valM p s.me=true
 hms:s.ms.length=p.vs.length
 hmo:s.mo.length=p.vs.length
 hvl:s.vs.length=s.th.length
 hlk:s.lk.length=p.ms.length
 hsg:s.sg.length=p.cs.length
 ev:s.ev.length≤512
 rf:s.rf.length=s.ev.length
 ok:∀t∈s.th,okT p bd t=true
 so:srtT s.th=true
 gm:∀x,x<s.ms.length→gdM s x=true
 mv:∀l∈s.ms,∀m∈l,gdV s m.vw=true
 gv:∀v∈s.vs,gdV s v=true
 gl:∀v∈s.lk,gdV s v=true
 gs:∀v∈s.sg,gdV s v=true
theorem alI_all {α:Type} {f:Nat→α→Bool}:∀{l:List α} {i:Nat},alI f l i=true↔∀j x,l[j]?=some x→f (i+j) x=true
 |[],i=>by simp[alI]
 |y::r,i=>by
  rw[alI,Bool.and_eq_true,alI_all (l:=r)];constructor
  ·rintro⟨h1,h2⟩ j x hj;cases j with
   |zero=>simp at hj;subst hj;exact h1
   |succ j=>rw[show i+(j+1)=i+1+j by omega];exact h2 j x (by simpa using hj)
  ·intro h;exact⟨h 0 y rfl,fun j x hj=>by rw[show i+1+j=i+(j+1) by omega];exact h (j+1) x (by simpa using hj)⟩
theorem vld_iff {p:Pg} {bd:Int} {s:Ra} (h:vldR p bd s=true):Vl p bd s:=by
 unfold vldR shR msR vwR at h;simp only[Bool.and_eq_true,decide_eq_true_eq,alI_all,List.all_eq_true]at h;obtain⟨⟨⟨⟨h1,h2⟩,h3⟩,h4⟩,h5⟩:=h
 have key:∀l∈[s.vs,s.lk,s.sg],∀v∈l,gdV s v=true:=by
  intro l hl v hv;obtain⟨j,hj⟩:=List.mem_iff_getElem?.1 hl;obtain⟨k,hk⟩:=List.mem_iff_getElem?.1 hv;exact h5 j l hj k v hk
 refine⟨h1,h2.1.1.1.1.1.1,h2.1.1.1.1.1.2,h2.1.1.1.1.2,h2.1.1.1.2,h2.1.1.2,h2.1.2,h2.2,h3.1,h3.2,fun x hx=>?_,fun l hl m hm=>?_,key _ (by simp),key _ (by simp),key _ (by simp)⟩
 ·have:=(h4 x _ (List.getElem?_eq_getElem hx)).1;simpa using this
 ·obtain⟨j,hj⟩:=List.mem_iff_getElem?.1 hl;obtain⟨k,hk⟩:=List.mem_iff_getElem?.1 hm;exact (h4 j l hj).2 k m hk
theorem gdV_len {s:Ra} {v:List Int} (h:gdV s v=true):v.length=s.ms.length:=by
 simp only[gdV,Bool.and_eq_true,decide_eq_true_eq]at h;exact h.1
theorem gdM_len {s:Ra} {x:Nat} (h:gdM s x=true):(gt2 s.ms x).length=(gt2 s.mo x).length:=by
 simp only[gdM,Bool.and_eq_true,decide_eq_true_eq]at h;exact h.1
theorem gdM_ev {s:Ra} {x:Nat} (h:gdM s x=true):∀m∈gt2 s.ms x,0≤m.ev∧m.ev<s.ev.length:=by
 intro m hm;obtain⟨k,hk⟩:=List.mem_iff_getElem?.1 hm;simp only[gdM,Bool.and_eq_true,decide_eq_true_eq]at h;have:=alI_all.1 h.2 k m hk;simp only[Bool.and_eq_true,decide_eq_true_eq]at this;exact this.1.1.1
theorem zud7 {α:Type} {l:List (List α)} {x:Nat} (h:¬x<l.length):gt2 l x=[]:=by
 rw[gt2,List.getElem?_eq_none (by omega)];rfl
def x0R (p:Pg) (bd:Int) (s:Ra) (ag ch:Int) (k:Nat) (t:Th) (i:In):Stq:=⟨p,bd,s,k,ch,i,⟨ag,t.st,0,0,-1,-1,0,0,0⟩,-2,0,0,0,s.ms.length,s.vs.length,s.lk.length,s.sg.length,s.mo.length⟩
def afR (p:Pg) (bd:Int) (t:Th) (x:Stq):Ra:={ x.s with th:=x.s.th.set x.ix.toNat (cmpT p bd t x.re),ev:=x.s.ev++[x.e],rf:=x.s.rf++[x.rf] }
def stpR (p:Pg) (bd:Int) (s:Ra) (ag ch:Int):Int ⊕ (Ra×Evt):=
 if stdE p bd≠0 then .inl (stdE p bd)
 else if vldR p bd s=false then .inl 1
 else match fndT s.th ag with
 |none=>.inl 19
 |some k=>match s.th[k]? with
  |none=>.inl 19
  |some t=>
   if (chs p s t (gt2 s.vs k)).contains ch=false then .inl 19
   else if 512≤s.ev.length then .inl 4
   else match penT p t with
    |none=>.inl 19
    |some i=>
     if (exX (x0R p bd s ag ch k t i) t k).er≠0 then .inl 30
     else if Go.Ex.cmpE p bd t (exX (x0R p bd s ag ch k t i) t k).re≠0 then .inl (Go.Ex.cmpE p bd t (exX (x0R p bd s ag ch k t i) t k).re)
     else .inr (afR p bd t (exX (x0R p bd s ag ch k t i) t k),(exX (x0R p bd s ag ch k t i) t k).e)
def oR:Int ⊕ (Ra×Evt)→AVal
 |.inl e=>.tup [.dat (RaD ⟨[],⟨[],[],[],[]⟩,[],[],[],[],[],[],[]⟩),.dat (ED ⟨0,0,0,0,0,0,0,0,0⟩),.dat (N e)]
 |.inr (s,e)=>.tup [.dat (RaD s),.dat (ED e),.dat (N 0)]
def Kp (x y:Stq):Prop:=y.s.ev=x.s.ev∧y.s.rf=x.s.rf∧y.s.th=x.s.th∧y.ix=x.ix∧y.p=x.p∧y.bd=x.bd
theorem Kp.rfl' (x:Stq):Kp x x:=⟨rfl,rfl,rfl,rfl,rfl,rfl⟩
theorem Kp_rd (x:Stq) (k v:Nat) (w:List Int) (c:Nat):Kp x (rdX x k v w c):=by
 unfold rdX;split
 ·exact⟨rfl,rfl,rfl,rfl,rfl,rfl⟩
 ·split<;>exact⟨rfl,rfl,rfl,rfl,rfl,rfl⟩
theorem Kp_up (x:Stq) (k v:Nat) (w:List Int) (c:Nat) (o:Int):Kp x (upX x k v w c o):=by
 unfold upX;split
 ·exact⟨rfl,rfl,rfl,rfl,rfl,rfl⟩
 ·split<;>exact⟨rfl,rfl,rfl,rfl,rfl,rfl⟩
theorem Kp_ac (x:Stq) (t:Th) (k v:Nat) (w:List Int) (c:Nat):Kp x (acX x t k v w c):=by
 unfold acX;dsimp only
 repeat' split
 ·exact Kp_rd (kdX (obX x x.i.o x.i.r) _) k v w c
 ·exact Kp_rd (kdX (obX x x.i.o x.i.r) _) k v w c
 ·exact⟨rfl,rfl,rfl,rfl,rfl,rfl⟩
 ·exact Kp_up (obX x x.i.o x.i.r) k v w c _
 ·exact Kp_up (obX x x.i.o x.i.r) k v w c _
 ·exact Kp_up (obX x x.i.o x.i.r) k v w c _
 ·exact Kp_rd (kdX (obX x x.i.o x.i.r) _) k v w c
theorem Kp_mx (x:Stq) (k i:Nat) (v o:List Int):Kp x (mxX x k i v o):=by
 unfold mxX tkX
 repeat' split
 all_goals exact⟨rfl,rfl,rfl,rfl,rfl,rfl⟩
theorem Kp_wt (x:Stq) (t:Th) (k i c:Nat) (v o u:List Int):Kp x (wtX x t k i c v o u):=by
 unfold wtX tkX
 repeat' split
 all_goals exact⟨rfl,rfl,rfl,rfl,rfl,rfl⟩
theorem Kp_sg (x:Stq) (k c:Nat) (v u:List Int):Kp x (sgX x k c v u):=by
 unfold sgX;split<;>exact⟨rfl,rfl,rfl,rfl,rfl,rfl⟩
theorem exX_inv (x:Stq) (t:Th) (k:Nat) (hk:x.ix=k) (hkl:k<x.s.th.length):(exX x t k).s.ev=x.s.ev∧(exX x t k).s.rf=x.s.rf∧(∃j:Nat,(exX x t k).ix=j∧j<(exX x t k).s.th.length)∧(exX x t k).s.th.length≤x.s.th.length+1∧(exX x t k).p=x.p∧(exX x t k).bd=x.bd:=by
 have key:∀y:Stq,y.s.ev=x.s.ev→y.s.rf=x.s.rf→y.s.th=x.s.th→y.ix=x.ix→y.p=x.p→y.bd=x.bd→y.s.ev=x.s.ev∧y.s.rf=x.s.rf∧(∃j:Nat,y.ix=j∧j<y.s.th.length)∧y.s.th.length≤x.s.th.length+1∧y.p=x.p∧y.bd=x.bd:=by
  intro y h1 h2 h3 h4 h5 h6;exact⟨h1,h2,⟨k,by rw[h4,hk],by rw[h3];exact hkl⟩,by rw[h3];omega,h5,h6⟩
 have kp:∀y,Kp x y→_:=fun y h=>key y h.1 h.2.1 h.2.2.1 h.2.2.2.1 h.2.2.2.2.1 h.2.2.2.2.2
 unfold exX;dsimp only
 repeat' split
 ·exact kp _ ⟨rfl,rfl,rfl,rfl,rfl,rfl⟩
 ·exact kp _ (Kp_mx ..)
 ·exact kp _ (Kp_wt ..)
 ·exact kp _ (Kp_sg ..)
 ·exact kp _ ⟨rfl,rfl,rfl,rfl,rfl,rfl⟩
 ·exact kp _ ⟨rfl,rfl,rfl,rfl,rfl,rfl⟩
 ·rename_i c _ _;have hl:=zte7 x.s.th (posT c x.s.th) (newT x.p x.bd c x.i.o (reg t x.i.b)) (posT_le ..);refine⟨rfl,rfl,?_,Nat.le_of_eq hl,rfl,rfl⟩
  show ∃j:Nat,(if posT c x.s.th≤k then (k:Int)+1 else k)=j∧j<(ins x.s.th (posT c x.s.th) (newT x.p x.bd c x.i.o (reg t x.i.b))).length
  rw[hl];split
  ·exact⟨k+1,by omega,by omega⟩
  ·exact⟨k,rfl,by omega⟩
 ·exact kp _ ⟨rfl,rfl,rfl,rfl,rfl,rfl⟩
 ·exact kp _ ⟨rfl,rfl,rfl,rfl,rfl,rfl⟩
 ·exact kp _ (Kp_ac ..)
end Go.Am.E

set_option maxRecDepth 10000
set_option maxHeartbeats 16000000
namespace Go.Am.E
open Go.Proofs Go.Ex Go.Rc
structure Sw (s:Ra):Prop where
 sr:Sr s
 ml:∀l∈s.ms,l.length<100000
theorem pk_mem {P:Nat→Bool} {n:Nat} {c:Int} (h:c∈pk P n):∃k:Nat,c=k∧k<n∧P k=true:=by
 unfold pk at h;simp only[List.mem_map,List.mem_filter,List.mem_range]at h;obtain⟨k,⟨h1,h2⟩,rfl⟩:=h;exact⟨k,rfl,h1,h2⟩
theorem gdV_pos {s:Ra} {v:List Int} (h:gdV s v=true) {x:Nat} (hx:x<s.ms.length):0≤posM (gt2 s.ms x) ((v[x]?).getD 0):=by
 simp only[gdV,Bool.and_eq_true,decide_eq_true_eq,alI_all]at h;obtain⟨h1,h2⟩:=h;have hv:=List.getElem?_eq_getElem (show x<v.length by omega);have:=h2 x _ hv;rw[hv];simpa using this
theorem Vl.rv {p:Pg} {bd:Int} {s:Ra} (h:Vl p bd s) (hf:Fit p) (hp:chP p=0) (hs:Sw s):Rv p s:=by
 refine⟨hf,hp,hs.sr.me,hs.sr.th,hs.sr.tb,h.hms,h.hmo,hs.sr.ml,fun x m hm=>?_⟩;by_cases hx:x<s.ms.length
 ·exact gdM_ev (h.gm x hx) m hm
 ·rw[zud7 hx]at hm;cases hm
theorem chs_ac {p:Pg} {s:Ra} {t:Th} {i:In} {v:List Int} {ch:Int} (hpn:penT p t=some i) (ha:acc i.op=true) (h:(chs p s t v).contains ch=true) (hpos:0≤posM (gt2 s.ms i.o.toNat) ((v[i.o.toNat]?).getD 0)):
  ∃c:Nat,ch=c∧posB p s t i (posM (gt2 s.ms i.o.toNat) ((v[i.o.toNat]?).getD 0)) c=true∧((i.op=9∧1≤c∧c≤(gt2 s.ms i.o.toNat).length+1)∨((i.op=8∨i.op=10∨i.op=11∨i.op=12∨i.op=14)∧c≤(gt2 s.ms i.o.toNat).length)):=by
 unfold chs at h;rw[hpn]at h;dsimp only at h;rw[if_pos ha,List.contains_iff_mem]at h;obtain⟨c,h1,h2,h3⟩:=pk_mem h;refine⟨c,h1,h3,?_⟩;have h3':=h3;unfold posB at h3;have hop:=acc_op ha;by_cases o9:i.op=9
 ·rw[if_neg (by omega),if_neg (by omega),if_pos o9]at h3;simp only[Bool.and_eq_true,decide_eq_true_eq]at h3;exact .inl ⟨o9,by omega,h3.2.1⟩
 ·refine .inr ⟨by omega,?_⟩;rw[if_neg o9]at h3;split at h3
  ·simp only[Bool.and_eq_true,decide_eq_true_eq]at h3;exact h3.2
  split at h3
  ·simp only[Bool.and_eq_true,decide_eq_true_eq]at h3;exact h3.2.1
  split at h3
  ·simp only[Bool.and_eq_true,decide_eq_true_eq]at h3;exact h3.2.1
  ·simp only[Bool.and_eq_true,decide_eq_true_eq]at h3;exact h3.2.1
theorem acc_22 {op:Int} (h:op=22):acc op=false:=by subst h;decide
theorem xh_of {p:Pg} {bd ag ch:Int} {s:Ra} {k:Nat} {t:Th} {i:In} (hf:Fit p) (hb:stdE p bd=0) (hs:Sw s) (h:Vl p bd s) (hk:s.th[k]?=some t) (hpn:penT p t=some i) (hc:(chs p s t (gt2 s.vs k)).contains ch=true):Xh (x0R p bd s ag ch k t i) t k:=by
 have hp:=(zpd7 hb).1;have htb:=hs.sr.tb t (List.mem_of_getElem? hk);obtain⟨P,hvi,hss,hok,hin⟩:=pen_pi hp htb hpn;have hid:=dep_lt (frmT_dep ((okT_run hok hss).1));have hlim:=chP_lim hp;have hkl:=(zca7 hk).2.2;have hvl:=h.hvl;have hv:=zmc7 (show k<s.vs.length by omega);have hgv:=h.gv _ (List.mem_of_getElem? hv)
 exact {
  hf:=hf,hk:=rfl,ht:=hk,hid:=by omega,P:=P,vi:=hvi,hms:=h.hms,hmo:=h.hmo
  hml:=by show p.vs.length<1000000;omega
  hvl:=hvl,hlk:=h.hlk,hsg:=h.hsg,hth:=hs.sr.th,lms:=hs.ml
  lmo:=fun v=>by
   by_cases hv:v<s.ms.length
   ·exact gdM_len (h.gm v hv)
   ·show (gt2 s.ms v).length=(gt2 s.mo v).length
    have:=h.hms;have:=h.hmo;rw[zud7 hv,zud7 (by omega)];rfl
  vw:=fun v hv=>gdV_len (h.gv v hv)
  lw:=fun v hv=>gdV_len (h.gl v hv)
  sw:=fun v hv=>gdV_len (h.gs v hv)
  mw:=fun l hl m hm=>gdV_len (h.mv l hl m hm)
  me:=hs.sr.me
  ixl:=⟨by show p.ms.length<1000000;omega,by show p.cs.length<1000000;omega⟩
  jn:=fun o22 e=>by
   have o22:i.op=22:=o22;have e:fndT s.th (reg t i.b)=some k:=e;unfold chs at hc;rw[hpn]at hc;dsimp only at hc;rw[if_neg (by rw[acc_22 o22];decide)]at hc;split at hc
   ·rename_i hr;unfold rdyR at hr;rw[if_neg (by omega),if_neg (by omega),if_pos o22,e]at hr;dsimp only at hr;rw[hk]at hr;simp[hss]at hr
   ·simp at hc
  ac:=fun ha=>by
   have ha:acc i.op=true:=ha;obtain⟨x,hx,hxp⟩:=P.va (acc_op ha)
   have hpos:0≤posM (gt2 s.ms i.o.toNat) (((gt2 s.vs k)[i.o.toNat]?).getD 0):=by
    rw[hx,Int.toNat_natCast];exact gdV_pos hgv (by have:=h.hms;omega)
   obtain⟨c,h1,h2,h3⟩:=chs_ac hpn ha hc hpos;exact⟨c,h1,h3⟩ }
end Go.Am.E

set_option maxRecDepth 10000
set_option maxHeartbeats 16000000
namespace Go.Am.E
open Go.Proofs Go.Ex Go.Rc
attribute [local simp] same_d same_r same_p same_n same_c ztc7 zuc7 zsc7 pairK zyc7 chgOf slim sameAt meets updT MsD
theorem IDc_eq (i:In):IDc i=[.dat (N i.op),.dat (N i.a),.dat (N i.b),.dat (N i.c),.dat (N i.o),.dat (N i.n),.dat (N i.f),.dat (N i.r)]:=rfl
theorem run17 (p:Pg) (hf:Fit p) (bd:Int) (s:Ra) (hs:Sw s) (ag ch:Int):K 17 [.agg ((PDl p).map AVal.dat),.dat (N bd),.dat (RaD s),.dat (NP (ag,ch))] []=some (oR (stpR p bd s ag ch),[]):=by
 have h41:=run41 p bd hf;by_cases hb:stdE p bd=0;rotate_left
 ·have e:stpR p bd s ag ch=.inl (stdE p bd):=by unfold stpR;rw[if_pos hb]
  rw[e];unfold oR;dsimp only;generalize stdE p bd=E at *
  refine ce rfl ?_;simp[h41,hb,NP]
 have h35:=run35 p hf bd hb s hs.sr;rw[hb]at h41;cases hv:vldR p bd s<;>rw[hv]at h35
 ·have e:stpR p bd s ag ch=.inl 1:=by unfold stpR;rw[if_neg (by rw[hb];simp),if_pos hv]
  rw[e];unfold oR;dsimp only;refine ce rfl ?_;simp[h41,h35,NP]
 have V:=vld_iff hv;have hp:=(zpd7 hb).1;have h36:=run36 s.th ag (by have:=hs.sr.th;omega);unfold fndP at h36;cases hfn:fndT s.th ag with
 |none=>
  have e:stpR p bd s ag ch=.inl 19:=by unfold stpR;rw[if_neg (by rw[hb];simp),if_neg (by rw[hv];simp),hfn]
  rw[e];unfold oR;dsimp only;rw[hfn]at h36;simp at h36;refine ce rfl ?_;simp[h41,h35,h36,NP]
 |some k=>
  rw[hfn]at h36;obtain⟨t,ht,htid⟩:=fndT_get hfn;obtain⟨t1,t2,t3⟩:=zca7 ht;have hkv:=zmc7 (show k<s.vs.length by have:=V.hvl;omega);have h37:=run37 p s (V.rv hf hp hs) k t (gt2 s.vs k) ht hkv (gdV_len (V.gv _ (List.mem_of_getElem? hkv)))
  have hst:stpR p bd s ag ch=if (chs p s t (gt2 s.vs k)).contains ch=false then .inl 19
   else if 512≤s.ev.length then .inl 4
   else match penT p t with
    |none=>.inl 19
    |some i=>
     if (exX (x0R p bd s ag ch k t i) t k).er≠0 then .inl 30
     else if Go.Ex.cmpE p bd t (exX (x0R p bd s ag ch k t i) t k).re≠0 then .inl (Go.Ex.cmpE p bd t (exX (x0R p bd s ag ch k t i) t k).re)
     else .inr (afR p bd t (exX (x0R p bd s ag ch k t i) t k),(exX (x0R p bd s ag ch k t i) t k).e):=by
   unfold stpR;rw[if_neg (by rw[hb];simp),if_neg (by rw[hv];simp),hfn];dsimp only;rw[ht];try rfl
  have hcl:(chs p s t (gt2 s.vs k)).length<100000000000:=by
   unfold chs;split
   ·simp
   ·split
    ·have:=pk_len (posB p s t ‹_› (posM (gt2 s.ms (In.o ‹_›).toNat) (((gt2 s.vs k)[(In.o ‹_›).toNat]?).getD 0))) ((gt2 s.ms (In.o ‹_›).toNat).length+2)
     have hl:(gt2 s.ms (In.o ‹_›).toNat).length<1000000:=by
      by_cases hx:(In.o ‹_›).toNat<s.ms.length
      ·have:=zmc7 hx;exact hs.sr.ml _ (List.mem_of_getElem? this)
      ·rw[zud7 hx];simp
     omega
    ·split<;>simp
  have h42:=run42 (chs p s t (gt2 s.vs k)) ch hcl;cases hcc:(chs p s t (gt2 s.vs k)).contains ch
  ·rw[hst,if_pos hcc];rw[hcc]at h42;unfold oR;dsimp only;simp at h36;generalize chs p s t (gt2 s.vs k)=C at *
   refine ce rfl ?_;simp[h41,h35,h36,h37,h42,NP]
  ·rw[hst,if_neg (by rw[hcc];simp)];rw[hcc]at h42;by_cases hev:512≤s.ev.length
   ·rw[if_pos hev];have hev':(512:Int)≤s.ev.length:=by omega
    unfold oR;dsimp only;simp at h36;generalize chs p s t (gt2 s.vs k)=C at *
    refine ce rfl ?_;simp[h41,h35,h36,h37,h42,hev',NP]
   ·rw[if_neg hev];have hev':¬(512:Int)≤s.ev.length:=by omega
    obtain⟨i,hpn⟩:∃i,penT p t=some i:=by
     cases hpn:penT p t with
     |some i=>exact⟨i,rfl⟩
     |none=>unfold chs at hcc;rw[hpn]at hcc;simp at hcc
    have xh:=xh_of (ch:=ch) (ag:=ag) hf hb hs V ht hpn hcc;have h43:=run43 p hf t (hs.sr.tb t (List.mem_of_getElem? ht));rw[penP_pen hp,hpn]at h43;have h29:=run29 s hs.sr;have h44:=run44 (x0R p bd s ag ch k t i) t k xh;obtain⟨i1,i2,⟨j,i3,i4⟩,i5,i6,i7⟩:=exX_inv (x0R p bd s ag ch k t i) t k rfl t3;have h45:=run45 p hf bd t (hs.sr.tb t (List.mem_of_getElem? ht)) (exX (x0R p bd s ag ch k t i) t k).re;have ixk:Ix k:=by have:=hs.sr.th;unfold Ix;omega
    rw[hpn];dsimp only;generalize exX (x0R p bd s ag ch k t i) t k=Z at *
    have hS:exS (x0R p bd s ag ch k t i) t=0∨exS (x0R p bd s ag ch k t i) t=1∨exS (x0R p bd s ag ch k t i) t=2:=by
     unfold exS
     repeat' split
     all_goals simp
    generalize exS (x0R p bd s ag ch k t i) t=n at *
    generalize chs p s t (gt2 s.vs k)=C at *
    simp only[insP]at h43;simp at h36;by_cases her:Z.er=0
    ·rw[if_neg (by simp[her])];unfold cmpPr at h45;have hzl:Z.s.th.length<10000000:=by have:=hs.sr.th;have:(x0R p bd s ag ch k t i).s.th.length=s.th.length:=rfl;omega
     have jx:Ix j:=by unfold Ix;omega
     have i1:Z.s.ev=s.ev:=i1;have i2:Z.s.rf=s.rf:=i2;have hrl:=V.rf;have rm1:(s.ev.length+1)*73≤1099511627776:=by omega
     have rm2:(s.rf.length+1)*9≤1099511627776:=by omega
     have j3:(j:Int)<Z.s.th.length:=by omega
     by_cases hce:Go.Ex.cmpE p bd t Z.re=0
     ·rw[if_neg (by simp[hce])];rw[if_pos hce]at h45;unfold oR afR;dsimp only;rw[i3,Int.toNat_natCast,i1,i2];generalize cmpT p bd t Z.re=T at *
      have d17:∀u:Th,List.drop 17 (TDl u)=[]:=fun _=>rfl
      rcases hS with hS|hS|hS
      all_goals
       subst hS;simp[xB,xS,xM,xE,xQB,x0R,i3,i1,i2]at h44;refine ce rfl ?_;simp[h41,h35,h36,h37,h42,hev',NP,ht,t1,t2,t3,h43,h29,h44,her,ixk,IDc_eq,h45,i1,i2,i3,i4,j3,jx,rm1,rm2,d17]
     ·rw[if_pos hce];rw[if_neg hce]at h45;unfold oR;dsimp only;generalize Go.Ex.cmpE p bd t Z.re=E at *
      rcases hS with hS|hS|hS
      all_goals
       subst hS;simp[xB,xS,xM,x0R]at h44;refine ce rfl ?_;simp[h41,h35,h36,h37,h42,hev',NP,ht,t1,t2,t3,h43,h29,h44,her,ixk,IDc_eq,h45,hce]
    ·rw[if_pos her];unfold oR;dsimp only;rcases hS with hS|hS|hS
     all_goals
      subst hS;simp[xB,xS,xM,x0R]at h44;refine ce rfl ?_;simp[h41,h35,h36,h37,h42,hev',NP,ht,t1,t2,t3,h43,h29,h44,her,ixk,IDc_eq]
end Go.Am.E

set_option maxHeartbeats 4000000
namespace Go.Am.E
open Go.Proofs Go.Ex Go.Rc
def mass (m:Me):Nat:=m.sg.length+m.qu.flatten.length
theorem flat_set (q:List Int):∀(l:List (List Int)) (k:Nat),(l.set k q).flatten.length+((l[k]?).getD []).length≤l.flatten.length+q.length
 |[],k=>by simp
 |a::r,0=>by simp;omega
 |a::r,k+1=>by
  have:=flat_set q r k;simp only[List.set_cons_succ,List.flatten_cons,List.length_append,List.getElem?_cons_succ]at this ⊢;omega
theorem flat_len (l:List (List Int)) (q:List Int) (h:q∈l):q.length≤l.flatten.length:=by
 induction l with
 |nil=>cases h
 |cons a r ih=>
  rcases List.mem_cons.1 h with rfl|h
  ·simp
  ·have:=ih h;simp only[List.flatten_cons,List.length_append];omega
theorem fold_ins (l:List Int):∀s:List Int,(l.foldl (fun s i=>Go.Ex.ins i s) s).length≤s.length+l.length:=by
 induction l with
 |nil=>intro s;simp
 |cons a r ih=>
  intro s;have h1:=ih (Go.Ex.ins a s);have h2:=ins_len a s;simp only[List.foldl_cons,List.length_cons];omega
theorem mass_wak (m:Me) (c:Int) (n:Nat):mass (wakM m c n)≤mass m+1:=by
 have h1:=fold_ins ((getq m c).take n) m.sg;have h2:=flat_set ((getq m c).drop n) m.qu c.toNat;have h3:(((m.qu[c.toNat]?).getD []).length)=(getq m c).length:=rfl;rw[List.length_take]at h1;rw[List.length_drop]at h2;unfold mass wakM;simp only;omega
theorem mass_enq (m:Me) (c id:Int):mass (enqM m c id)≤mass m+1:=by
 have h2:=flat_set (getq m c++[id]) m.qu c.toNat;have h3:(((m.qu[c.toNat]?).getD []).length)=(getq m c).length:=rfl;rw[List.length_append]at h2;unfold mass enqM;simp only[List.length_cons,List.length_nil]at h2 ⊢;omega
theorem mass_wok (m:Me) (id:Int):mass (wokM m id)≤mass m+1:=by
 have:=List.length_filter_le (fun x=>decide (x≠id)) m.sg;unfold mass wokM del;simp only;omega
theorem newT_hd (p:Pg) (bd id fn arg:Int):(newT p bd id fn arg).hd=[]:=by
 unfold newT;rw[(setl_same _ _ _ _).2.2];rfl
theorem cmpT_hd (p:Pg) (bd:Int) (t:Th) (v:Int):(cmpT p bd t v).hd.length≤t.hd.length+1:=by
 unfold cmpT;split
 ·rw[(setl_same _ _ _ _).2.2];exact (nxtT_same _ _ _).2.2.2
 ·omega
structure Jm (n:Nat) (m:Me):Prop where
 va:m.va.length≤8
 ow:m.ow.length≤8
 qu:m.qu.length≤8
 ms:mass m≤n
theorem Jm.up {n n':Nat} {m:Me} (h:Jm n m) (hn:n≤n'):Jm n' m:=⟨h.va,h.ow,h.qu,by have:=h.ms;omega⟩
theorem Jm.nil (n:Nat):Jm n ⟨[],[],[],[]⟩:=⟨by simp,by simp,by simp,by simp[mass]⟩
theorem Jm.mem {n:Nat} {m:Me} (h:Jm n m) (e:Int):Jm n (memM e m):=by
 unfold memM;split
 ·exact h
 ·exact Jm.nil n
theorem Jm.own {n:Nat} {m:Me} (h:Jm n m) (i v:Int):Jm n (Go.Ex.ownM m i v):=⟨h.va,by simp[Go.Ex.ownM];exact h.ow,h.qu,h.ms⟩
theorem Jm.wak {n:Nat} {m:Me} (h:Jm n m) (c:Int) (k:Nat):Jm (n+1) (wakM m c k):=⟨h.va,h.ow,by simp[wakM];exact h.qu,by have:=mass_wak m c k;have:=h.ms;omega⟩
theorem Jm.enq {n:Nat} {m:Me} (h:Jm n m) (c id:Int):Jm (n+1) (enqM m c id):=⟨h.va,h.ow,by simp[enqM];exact h.qu,by have:=mass_enq m c id;have:=h.ms;omega⟩
theorem Jm.wok {n:Nat} {m:Me} (h:Jm n m) (id:Int):Jm (n+1) (wokM m id):=⟨h.va,h.ow,h.qu,by have:=mass_wok m id;have:=h.ms;omega⟩
theorem Jm.mb {n:Nat} {m:Me} (h:Jm n m) (hn:n≤1000):Mb m:=by
 have h4:=h.ms;unfold mass at h4;refine⟨by have:=h.va;omega,by have:=h.ow;omega,by have:=h.qu;omega,fun q hq=>?_,by omega⟩;have:=flat_len _ _ hq;omega
abbrev Rw (l:List (List Int)):Prop:=∀v∈l,v.length≤8
theorem Rw.set {l:List (List Int)} (h:Rw l) {w:List Int} (hw:w.length≤8) (k:Nat):Rw (l.set k w):=fun v hv=>by
 rcases List.mem_or_eq_of_mem_set hv with hv|rfl
 ·exact h v hv
 ·exact hw
structure Jr (n:Nat) (s:Ra):Prop where
 me:Jm n s.me
 th:s.th.length≤8+n
 ts:∀t∈s.th,t.id<100000000∧t.hd.length≤1000
 ms:s.ms.length≤8
 ml:∀l∈s.ms,l.length≤n
 mw:∀l∈s.ms,∀m∈l,m.vw.length≤8
 mo:s.mo.length≤8
 mol:∀l∈s.mo,l.length≤n
 vs:s.vs.length≤8+n
 vw:Rw s.vs
 lk:s.lk.length≤8
 lw:Rw s.lk
 sg:s.sg.length≤8
 sw:Rw s.sg
 ev:s.ev.length≤n
 rf:s.rf.length≤n
theorem Jr.sw' {n:Nat} {s:Ra} (h:Jr n s) (hn:n≤900):Sw s:=by
 refine⟨⟨h.me.mb (by omega),by have:=h.th;omega,fun t ht=>?_,by have:=h.ms;omega,fun l hl=>by have:=h.ml l hl;omega,fun l hl m hm=>by have:=h.mw l hl m hm;omega,fun l hl=>by have:=h.mol l hl;omega,by have:=h.mo;omega,by have:=h.vs;omega,by have:=h.lk;omega,by have:=h.sg;omega,fun v hv=>by have:=h.vw v hv;omega,fun v hv=>by have:=h.lw v hv;omega,fun v hv=>by have:=h.sw v hv;omega,by have:=h.ev;omega,by have:=h.rf;omega⟩,fun l hl=>by have:=h.ml l hl;omega⟩;have:=h.ts t ht;exact⟨by omega,by omega⟩
theorem Jr.up {n:Nat} {s:Ra} (h:Jr n s):Jr (n+1) s:=
 ⟨h.me.up (by omega),by have:=h.th;omega,h.ts,h.ms,fun l hl=>by have:=h.ml l hl;omega,h.mw,h.mo,fun l hl=>by have:=h.mol l hl;omega,by have:=h.vs;omega,h.vw,h.lk,h.lw,h.sg,h.sw,by have:=h.ev;omega,by have:=h.rf;omega⟩
theorem Jr.shr {n:Nat} {s:Ra} (h:Jr n s) {m:Me} (hm:Jm n m) {w:List Int} (hw:w.length≤8) (k i c:Nat):
  Jr n { s with me:=m,vs:=s.vs.set k w }∧Jr n { s with me:=m,vs:=s.vs.set k w,lk:=s.lk.set i w }∧Jr n { s with me:=m,vs:=s.vs.set k w,sg:=s.sg.set c w }∧Jr n { s with me:=m,vs:=s.vs.set k w,lk:=s.lk.set i w,sg:=s.sg.set c w }:=
 ⟨⟨hm,h.th,h.ts,h.ms,h.ml,h.mw,h.mo,h.mol,by simpa using h.vs,h.vw.set hw k,h.lk,h.lw,h.sg,h.sw,h.ev,h.rf⟩,
  ⟨hm,h.th,h.ts,h.ms,h.ml,h.mw,h.mo,h.mol,by simpa using h.vs,h.vw.set hw k,by simpa using h.lk,h.lw.set hw i,h.sg,h.sw,h.ev,h.rf⟩,
  ⟨hm,h.th,h.ts,h.ms,h.ml,h.mw,h.mo,h.mol,by simpa using h.vs,h.vw.set hw k,h.lk,h.lw,by simpa using h.sg,h.sw.set hw c,h.ev,h.rf⟩,
  ⟨hm,h.th,h.ts,h.ms,h.ml,h.mw,h.mo,h.mol,by simpa using h.vs,h.vw.set hw k,by simpa using h.lk,h.lw.set hw i,by simpa using h.sg,h.sw.set hw c,h.ev,h.rf⟩⟩
theorem mem_ins {α:Type} {l:List α} {i:Nat} {a x:α} (h:x∈ins l i a):x=a∨x∈l:=by
 unfold ins at h;rcases List.mem_append.1 h with h|h
 ·exact .inr (List.mem_of_mem_take h)
 ·rcases List.mem_cons.1 h with h|h
  ·exact .inl h
  ·exact .inr (List.mem_of_mem_drop h)
theorem ins_le {α:Type} (l:List α) (i:Nat) (a:α):(ins l i a).length≤l.length+1:=by
 simp[ins];omega
theorem gt2_le {α:Type} {n:Nat} {l:List (List α)} (h:∀r∈l,r.length≤n) (x:Nat):(gt2 l x).length≤n:=by
 by_cases hx:x<l.length
 ·exact h _ (List.mem_of_getElem? (zmc7 hx))
 ·rw[zud7 hx];simp
theorem Jr.wr {n:Nat} {s:Ra} (h:Jr n s) (v pl k:Nat) (m:Msg) (w:List Int) (hm:m.vw.length≤8) (hw:w.length≤8):
  Jr (n+1) { s with ms:=s.ms.set v (ins (gt2 s.ms v) pl m),mo:=s.mo.set v (ins (gt2 s.mo v) pl m.ev),vs:=s.vs.set k w }:=by
 have h1:=gt2_le h.ml v;have h2:=gt2_le h.mol v;have h3:=ins_le (gt2 s.ms v) pl m;have h4:=ins_le (gt2 s.mo v) pl m.ev;have u:=h.up;refine⟨u.me,u.th,u.ts,by simpa using h.ms,fun l hl=>?_,fun l hl a ha=>?_,by simpa using h.mo,fun l hl=>?_,by simpa using u.vs,h.vw.set hw k,h.lk,h.lw,h.sg,h.sw,u.ev,u.rf⟩
 ·rcases List.mem_or_eq_of_mem_set hl with hl|rfl
  ·exact u.ml l hl
  ·omega
 ·rcases List.mem_or_eq_of_mem_set hl with hl|rfl
  ·exact h.mw l hl a ha
  ·rcases mem_ins ha with rfl|ha
   ·exact hm
   ·by_cases hx:v<s.ms.length
    ·exact h.mw _ (List.mem_of_getElem? (zmc7 hx)) a ha
    ·rw[zud7 hx]at ha;cases ha
 ·rcases List.mem_or_eq_of_mem_set hl with hl|rfl
  ·exact u.mol l hl
  ·omega
end Go.Am.E

set_option maxHeartbeats 4000000
namespace Go.Am.E
open Go.Proofs Go.Ex Go.Rc
theorem Jr.mx {n:Nat} {x:Stq} (h:Jr n x.s) (k i:Nat) (v o:List Int) (hv:v.length≤8):Jr (n+1) (mxX x k i v o).s:=by
 have hj:(jnV x.s.ms v o 0).length≤8:=by rw[zcb7];exact hv
 have key:=fun m (hm:Jm n m)=>(h.shr hm hj k i 0).2.1.up
 unfold mxX tkX
 repeat' split
 ·exact key _ ((h.me.own _ _).mem _)
 ·exact key _ ((h.me.own _ _).mem _)
 ·exact key _ ((h.me.own _ _).mem _)
 ·exact key _ h.me
theorem Jr.wt {n:Nat} {x:Stq} (h:Jr n x.s) (t:Th) (k i c:Nat) (v o u:List Int) (hv:v.length≤8):Jr (n+1) (wtX x t k i c v o u).s:=by
 have hj:(jnV x.s.ms v o 0).length≤8:=by rw[zcb7];exact hv
 have hu:(jnV x.s.ms v u 0).length≤8:=by rw[zcb7];exact hv
 have hj2:(jnV x.s.ms (jnV x.s.ms v o 0) u 0).length≤8:=by rw[zcb7];exact hj
 have kW:=fun m (hm:Jm (n+1) m)=>(h.up.shr hm hj2 k i c).2.2.2
 have kS:=fun m (hm:Jm (n+1) m)=>(h.up.shr hm hu k i c).2.2.1
 have kL:=fun m (hm:Jm (n+1) m)=>(h.up.shr hm hj k i c).2.1
 unfold wtX tkX
 repeat' split
 ·exact kW _ (((h.me.own _ _).enq _ _).mem _)
 ·exact kW _ (Jm.nil _)
 ·exact kS _ ((h.me.wok _).mem _)
 ·exact kL _ (((h.me.own _ _).mem _).up (by omega))
theorem Jr.sgl {n:Nat} {x:Stq} (h:Jr n x.s) (k c:Nat) (v u:List Int) (hv:v.length≤8):Jr (n+1) (sgX x k c v u).s:=by
 have hu:(jnV x.s.ms v u 0).length≤8:=by rw[zcb7];exact hv
 have kS:=fun m (hm:Jm (n+1) m)=>(h.up.shr hm hu k 0 c).2.2.1
 unfold sgX;split<;>exact kS _ ((h.me.wak _ _).mem _)
theorem Jr.rd {n:Nat} {x:Stq} (h:Jr n x.s) (k v:Nat) (w:List Int) (c:Nat) (hw:w.length≤8):Jr n (rdX x k v w c).s:=by
 have key:=fun (w:List Int) (hw:w.length≤8)=>(h.shr h.me hw k 0 0).1
 unfold rdX;split
 ·exact key _ (by simpa using hw)
 ·split
  ·exact h
  ·refine key _ ?_;split
   ·rw[zcb7];simpa using hw
   ·simpa using hw
theorem owV_len (x:Stq) (v pl:Nat) (w:List Int) (o:Int) (f:Option (List Int)):(owV x v pl w o f).length=w.length:=by
 have e:(if x.e.ord=2 then w.set v (x.s.ev.length:Int) else (List.replicate w.length (-1)).set v (x.s.ev.length:Int)).length=w.length:=by split<;>simp
 unfold owV;cases f with
 |none=>exact e
 |some f=>dsimp only;rw[zcb7];exact e
theorem Jr.wrx {n:Nat} {x:Stq} (h:Jr n x.s) (k v pl:Nat) (w:List Int) (o:Int) (f:Option (List Int)) (hw:w.length≤8):Jr (n+1) (wrX x k v pl w o f).s:=
 h.wr v pl k ⟨x.s.ev.length,o,owV x v pl w o f⟩ (w.set v x.s.ev.length) (by rw[owV_len];exact hw) (by simpa using hw)
theorem Jr.upx {n:Nat} {x:Stq} (h:Jr n x.s) (k v:Nat) (w:List Int) (c:Nat) (o:Int) (hw:w.length≤8):Jr (n+1) (upX x k v w c o).s:=by
 unfold upX;cases c with
 |zero=>exact ((h.shr h.me (by simpa using hw) k 0 0).1:Jr n (rd0 (kdX x 5) k v w).s).wrx k v 0 _ o none (by simpa using hw)
 |succ c=>
  dsimp only;split
  ·exact h.up
  ·have hw':∀m:Msg,(if x.e.ord=2 then jnV x.s.ms (w.set v m.ev) m.vw 0 else w.set v m.ev).length≤8:=fun m=>by split<;>simp[zcb7,hw]
   exact ((h.shr h.me (hw' _) k 0 0).1:Jr n (rd1 (kdX x 5) k v w _).s).wrx k v (c+1) _ o _ (hw' _)
theorem Jr.acx {n:Nat} {x:Stq} (h:Jr n x.s) (t:Th) (k v:Nat) (w:List Int) (c:Nat) (hw:w.length≤8):Jr (n+1) (acX x t k v w c).s:=by
 unfold acX;dsimp only
 repeat' split
 ·exact (Jr.rd (x:=kdX (obX x x.i.o x.i.r) _) h k v w c hw).up
 ·exact (Jr.rd (x:=kdX (obX x x.i.o x.i.r) _) h k v w c hw).up
 ·exact Jr.wrx (x:=kdX (obX x x.i.o x.i.r) 2) h k v _ w _ none hw
 ·exact Jr.upx (x:=obX x x.i.o x.i.r) h k v w c _ hw
 ·exact Jr.upx (x:=obX x x.i.o x.i.r) h k v w c _ hw
 ·exact Jr.upx (x:=obX x x.i.o x.i.r) h k v w c _ hw
 ·exact (Jr.rd (x:=kdX (obX x x.i.o x.i.r) 6) h k v w c hw).up
theorem Jr.ex {n:Nat} {x:Stq} (h:Jr n x.s) (t:Th) (k:Nat):Jr (n+1) (exX x t k).s:=by
 have hw:=gt2_le h.vw k;unfold exX;dsimp only
 repeat' split
 ·exact h.up
 ·exact h.mx _ _ _ _ hw
 ·exact h.wt _ _ _ _ _ _ _ hw
 ·exact h.sgl _ _ _ _ hw
 ·exact h.up
 ·exact h.up
 ·rename_i c hc _;have u:=h.up;refine⟨u.me,Nat.le_trans (ins_le _ _ _) (by have:=h.th;omega),fun t ht=>?_,h.ms,u.ml,h.mw,h.mo,u.mol,Nat.le_trans (ins_le _ _ _) (by have:=h.vs;omega),fun v hv=>?_,h.lk,h.lw,h.sg,h.sw,u.ev,u.rf⟩
  ·rcases mem_ins ht with rfl|ht
   ·rw[newT_id,newT_hd];exact⟨(chd_lt hc).2,by simp⟩
   ·exact h.ts t ht
  ·rcases mem_ins hv with rfl|hv
   ·exact hw
   ·exact h.vw v hv
 ·exact h.up
 ·exact (h.shr h.me (by rw[zcb7];exact hw) k 0 0).1.up
 ·exact h.acx _ _ _ _ _ hw
structure StR (p:Pg) (bd:Int) (s:Ra) (ag ch:Int) (k:Nat) (t:Th) (i:In):Prop where
 b:stdE p bd=0
 v:Vl p bd s
 fn:fndT s.th ag=some k
 th:s.th[k]?=some t
 id:t.id=ag
 hc:(chs p s t (gt2 s.vs k)).contains ch=true
 ev:s.ev.length<512
 pn:penT p t=some i
 er:(exX (x0R p bd s ag ch k t i) t k).er=0
 ce:Go.Ex.cmpE p bd t (exX (x0R p bd s ag ch k t i) t k).re=0
theorem stpR_inr {p:Pg} {bd:Int} {s:Ra} {ag ch:Int} {r:Ra×Evt} (h:stpR p bd s ag ch=.inr r):∃k t i,StR p bd s ag ch k t i∧r=(afR p bd t (exX (x0R p bd s ag ch k t i) t k),(exX (x0R p bd s ag ch k t i) t k).e):=by
 unfold stpR at h;split at h
 ·cases h
 rename_i hb;split at h
 ·cases h
 rename_i hv;simp only[Bool.not_eq_false]at hv;cases hfn:fndT s.th ag with
 |none=>rw[hfn]at h;cases h
 |some k=>
  obtain⟨t,ht,hid⟩:=fndT_get hfn;rw[hfn]at h;dsimp only at h;rw[ht]at h;dsimp only at h;split at h
  ·cases h
  rename_i hc;split at h
  ·cases h
  rename_i hev;cases hpn:penT p t with
  |none=>rw[hpn]at h;cases h
  |some i=>
   rw[hpn]at h;dsimp only at h;split at h
   ·cases h
   rename_i her;split at h
   ·cases h
   rename_i hce;cases h;exact⟨k,t,i,⟨by simpa using hb,vld_iff hv,hfn,ht,hid,by simpa using hc,by omega,hpn,by simpa using her,by simpa using hce⟩,rfl⟩
theorem Jr.stp {n:Nat} {p:Pg} {bd:Int} {s:Ra} {ag ch:Int} {r:Ra×Evt} (h:Jr n s) (hn:n≤900) (hr:stpR p bd s ag ch=.inr r):Jr (n+1) r.1:=by
 obtain⟨k,t,i,S,rfl⟩:=stpR_inr hr;have hx:=Jr.ex (x:=x0R p bd s ag ch k t i) h t k;obtain⟨i1,i2,-⟩:=exX_inv (x0R p bd s ag ch k t i) t k rfl (zca7 S.th).2.2;have hok:=S.v.ok t (List.mem_of_getElem? S.th);have htb:=(h.sw' hn).sr.tb t (List.mem_of_getElem? S.th);refine⟨hx.me,by show (List.set _ _ _).length≤_;rw[List.length_set];exact hx.th,fun u hu=>?_,hx.ms,hx.ml,hx.mw,hx.mo,hx.mol,hx.vs,hx.vw,hx.lk,hx.lw,hx.sg,hx.sw,?_,?_⟩
 ·rcases List.mem_or_eq_of_mem_set hu with hu|rfl
  ·exact hx.ts u hu
  ·have hb:t.id<10000000∧t.hd.length≤4:=by
    unfold okT at hok;simp only[Bool.and_eq_true]at hok;exact⟨(dep_lt (frmT_dep hok.1)).2,(frmT_fr (zpd7 S.b).1 hok.1).hl⟩
   have:=cmpT_hd p bd t (exX (x0R p bd s ag ch k t i) t k).re;rw[cmpT_id];exact⟨by omega,by omega⟩
 ·show (_++[_]).length≤n+1
  rw[i1,List.length_append];have:=h.ev
  show s.ev.length+1≤n+1
  omega
 ·show (_++[_]).length≤n+1
  rw[i2,List.length_append];have:=h.rf
  show s.rf.length+1≤n+1
  omega
end Go.Am.E

set_option maxRecDepth 10000
set_option maxHeartbeats 8000000
namespace Go.Am.E
open Go.Proofs Go.Ex Go.Rc
attribute [-simp] splice
attribute [local simp] zma7
def iniV (p:Pg) (n:Nat):List (List Int):=List.replicate n (List.replicate p.vs.length (-1))
abbrev fdQ (qs:List (List Int)) (k:Nat):List Dat:=(qs.map Ns).take k++List.replicate (qs.length-k) (.sl [])
theorem fd_step {qs:List (List Int)} {i:Nat} {q:List Int} (h:qs[i]?=some q):(fdQ qs i).set i (Ns q)=fdQ qs (i+1):=by
 have hi:=(List.getElem?_eq_some_iff.1 h).1;have e:((qs.map Ns).take i).length=i:=by simp;omega
 unfold fdQ;rw[List.set_append,if_neg (by omega),e,Nat.sub_self,zpe7 (l:=qs.map Ns) (x:=Ns q) (by rw[List.getElem?_map,h];rfl),show qs.length-i=(qs.length-(i+1))+1 by omega,List.replicate_succ];simp
theorem fd_len (qs:List (List Int)) (i:Nat) (h:i≤qs.length):(fdQ qs i).length=qs.length:=by
 simp[fdQ];omega
theorem fd_get {qs:List (List Int)} {i:Nat} (h:i<qs.length):(fdQ qs i)[i]?=some (.sl []):=by
 have e:((qs.map Ns).take i).length=i:=by simp;omega
 rw[fdQ,List.getElem?_append_right (by omega),e,Nat.sub_self,List.getElem?_replicate,if_pos (by omega)]
theorem run60 (p:Pg) (n:Nat) (hn:n<1000000) (hp:p.vs.length<1000000):K 60 [.dat (PD p),.dat (N n)] []=some (.rsl ((0,0),0,0) 0 1 0 n,[.plain (.arr 1 0 false ((iniV p n).map Ns))]):=by
 have h:24*(n:Int)≤1099511627776:=by omega
 have h2:(n:Int)≤1099511627776:=by omega
 have hlen:(iniV p n).length=n:=by simp[iniV]
 have h124:=run124 p.vs.length hp;refine ce rfl ?_;simp[h,h2];simp only[zaa7]
 refine (zeb7 (live:=[2,5,10,11]) (drop:=[2,5]) (iniV p n) (by omega) (fun k=>⟨[(2,.ref ((3,0),0,0) 0),(5,.rsl ((6,0),0,0) 0 1 0 n),(10,.dat (N n)),(11,.dat (N k))],[((3,0),pbox p),((6,0),.plain (.arr 1 0 false (fdQ (iniV p n) k)))]⟩) (fun _ q=>q.1=.exit 0∧hd [5] [] q.2=some ⟨[(5,.rsl ((6,0),0,0) 0 1 0 n)],[((3,0),pbox p),((6,0),.plain (.arr 1 0 false (fdQ (iniV p n) n)))]⟩)
  (fun i y s d1 d2 d3 ix hs=>?_) (fun s hs=>?_) _ (by simp[hlen,fdQ])).mono ?_
 ·have hi:i<(iniV p n).length:=by omega
  have f1:=fd_len (iniV p n) i (by omega);have f2:=fd_step d1;have f3:=(zca7 (fd_get hi)).1;have hy:y=List.replicate p.vs.length (-1):=List.eq_of_mem_replicate (List.mem_of_getElem? d1);have hyN:y.map N=List.replicate p.vs.length (N (-1)):=by rw[hy,List.map_replicate]
  rw[hlen]at d3 f1 hi;simp only[Ns,hyN]at f2;generalize hF:fdQ (iniV p n) (i+1)=F' at *
  generalize fdQ (iniV p n) i=F at *
  simp[hs,d3,hi,ix,h124,f1,f2,f3,hlen,hF]
 ·simp[hs,hlen]
 ·rintro⟨y,s⟩ ⟨rfl,hq⟩;simp[hq,hlen,fdQ]
end Go.Am.E

set_option maxRecDepth 10000
set_option maxHeartbeats 16000000
namespace Go.Am.E
open Go.Proofs Go.Ex Go.Rc
def thS (p:Pg) (bd:Int):List Th:=(p.ts.zipIdx).map fun t=>newT p bd t.2 t.1.1 t.1.2
theorem thS_get {p:Pg} {bd:Int} {i:Nat} {t:Int×Int} (h:p.ts[i]?=some t):(thS p bd)[i]?=some (newT p bd i t.1 t.2):=by
 unfold thS;rw[List.getElem?_map,List.getElem?_zipIdx,h];simp
@[simp] theorem thS_len (p:Pg) (bd:Int):(thS p bd).length=p.ts.length:=by simp[thS]
abbrev mc (m:Me):List AVal:=[.dat (Ns m.va),.dat (Ns m.ow),.dat (.sl (m.qu.map Ns)),.dat (Ns m.sg)]
def X114 (p:Pg) (bd:Int):Nat→zsa7
 |0=>[((3,0),pbox p),((5,0),nil6),((10,0),.plain (.box [.nils,.dat (Ns (newM p).va),.dat (Ns (newM p).ow),.dat (.sl ((newM p).qu.map Ns)),.dat (Ns (newM p).sg),.nils]))]
 |k+1=>[((3,0),pbox p),((5,0),nil6),((10,0),.plain (.box [.rsl ((10,1),0,0) k 17 0 (k+1),.dat (Ns (newM p).va),.dat (Ns (newM p).ow),.dat (.sl ((newM p).qu.map Ns)),.dat (Ns (newM p).sg),.nils])),((10,1),tA k ((thS p bd).take (k+1)))]
abbrev E114 (p:Pg) (bd:Int) (k:Nat):Env:=[(1,.dat (N bd)),(2,.ref ((3,0),0,0) 0),(4,.ref ((5,0),0,0) 0),(9,.ref ((10,0),0,0) 0),(33,.dat (.sl (p.ts.map NP))),(34,.dat (N p.ts.length)),(35,.dat (N k))]
theorem chP_thr {p:Pg} (h:chP p=0):1≤p.ts.length∧p.ts.length≤8∧∀t∈p.ts,0≤t.1∧t.1<p.fs.length∧okV t.2=true:=by
 have h1:=fst0_all h (thrE p) (by simp);unfold thrE at h1;split at h1
 ·cases h1
 ·refine⟨by omega,by omega,fun t ht=>?_⟩;have h2:=fst0_all h1 (stE p t) (List.mem_map.2 ⟨t,ht,rfl⟩);unfold stE at h2;split at h2
  ·cases h2
  ·split at h2
   ·cases h2
   ·rename_i a b;exact⟨by omega,by omega,by simpa using b⟩
theorem newE_st {p:Pg} {bd:Int} (h0:stdE p bd=0) {i:Nat} {t:Int×Int} (h:p.ts[i]?=some t):newE p bd i t.1 t.2=0:=by
 obtain⟨h1,h2,h3⟩:=chP_thr (zpd7 h0).1;obtain⟨g1,g2,g3⟩:=h3 t (List.mem_of_getElem? h);have hi:=(List.getElem?_eq_some_iff.1 h).1
 have hd:dep (i:Int)≠none:=by
  unfold dep;rw[if_neg (by omega)];simp only[dpt];rw[if_pos (by omega)];simp
 unfold newE;rw[if_neg (by simp[h0]),if_neg hd,if_neg (by omega),g3];rfl
end Go.Am.E

set_option maxRecDepth 10000
set_option maxHeartbeats 16000000
namespace Go.Am.E
open Go.Proofs Go.Ex Go.Rc
def st0 (p:Pg) (bd:Int):Ra:=⟨thS p bd,newM p,List.replicate p.vs.length [],iniV p p.ts.length,iniV p p.ms.length,iniV p p.cs.length,[],[],List.replicate p.vs.length []⟩
def stn:Ra:=⟨[],⟨[],[],[],[]⟩,[],[],[],[],[],[],[]⟩
abbrev nilC:List AVal:=[.nils,.nils,.nils,.nils,.nils,.nils,.nils,.nils,.nils,.nils,.nils,.nils]
abbrev aD (l:List Dat):TObj:=.plain (.arr 1 0 false l)
abbrev T21 (p:Pg) (j:Nat):List AVal:=[.rsl ((10,j),0,0) 0 1 0 p.vs.length,.rsl ((10,j+1),0,0) 0 1 0 p.ts.length,.rsl ((10,j+2),0,0) 0 1 0 p.ms.length,.rsl ((10,j+3),0,0) 0 1 0 p.cs.length,.nils,.nils,.rsl ((10,j+4),0,0) 0 1 0 p.vs.length]
abbrev O21 (p:Pg) (j:Nat):zsa7:=[((10,j),aD (List.replicate p.vs.length (.sl []))),((10,j+1),aD ((iniV p p.ts.length).map Ns)),((10,j+2),aD ((iniV p p.ms.length).map Ns)),((10,j+3),aD ((iniV p p.cs.length).map Ns)),((10,j+4),aD (List.replicate p.vs.length (.sl [])))]
def X21 (p:Pg) (bd:Int):Nat→zsa7
 |0=>[((3,0),pbox p),((5,0),.plain (.box nilC)),((10,0),.plain (.box (.nils::mc (newM p)++T21 p 1)))]++O21 p 1
 |k+1=>[((3,0),pbox p),((5,0),.plain (.box nilC)),((10,0),.plain (.box (.rsl ((10,1),0,0) k 17 0 (k+1)::mc (newM p)++T21 p 2))),((10,1),tA k ((thS p bd).take (k+1)))]++O21 p 2
abbrev E21 (p:Pg) (bd:Int) (k:Nat):Env:=[(1,.dat (N bd)),(2,.ref ((3,0),0,0) 0),(4,.ref ((5,0),0,0) 0),(9,.ref ((10,0),0,0) 0),(58,.dat (.sl (p.ts.map NP))),(59,.dat (N p.ts.length)),(60,.dat (N k))]
@[simp] theorem iniV_len (p:Pg) (n:Nat):(iniV p n).length=n:=by simp[iniV]
@[simp] theorem iniV_take (p:Pg) (n:Nat):List.take n (List.map Ns (iniV p n))=List.map Ns (iniV p n):=List.take_of_length_le (by simp)
theorem run21e (p:Pg) (hf:Fit p) (bd:Int) (h0:stdE p bd≠0):K 21 [.dat (PD p),.dat (N bd)] []=some (.tup [.dat (RaD stn),.dat (N (stdE p bd))],[]):=by
 have h1:=run41 p bd hf;refine ce rfl ?_;generalize stdE p bd=e at *
 simp[h1,h0,stn]
theorem run21 (p:Pg) (hf:Fit p) (bd:Int) (h0:stdE p bd=0):K 21 [.dat (PD p),.dat (N bd)] []=some (.tup [.dat (RaD (st0 p bd)),.dat (N 0)],[]):=by
 have h1:=run41 p bd hf;have h2:=run59 p hf;have hp:=(zpd7 h0).1;unfold newP' at h2;rw[if_pos hp]at h2;obtain⟨l1,l2,l3⟩:=chP_thr hp;have lm:=chP_lim hp;have v1:=run60 p p.ts.length (by omega) (by omega);have v2:=run60 p p.ms.length (by omega) (by omega);have v3:=run60 p p.cs.length (by omega) (by omega);have r1:24*(p.vs.length:Int)≤1099511627776:=by omega
 have r2:(p.vs.length:Int)≤1099511627776:=by omega
 refine ce rfl ?_;rw[h0]at h1;simp[h1,h2,v1,v2,v3,r1,r2];simp only[zaa7];have rl:∀l:List Str,(l.map fun _=>(-1:Int))=List.replicate l.length (-1):=fun l=>by rw[List.map_const']
 refine (zeb7 (live:=[1,2,4,9,58,59,60]) (drop:=[2,4,9,58]) p.ts (by omega) (fun k=>⟨E21 p bd k,X21 p bd k⟩) (fun _ q=>q.1=.exit 0∧hd [4,9] [] q.2=some ⟨[(4,.ref ((5,0),0,0) 0),(9,.ref ((10,0),0,0) 0)],X21 p bd p.ts.length⟩)
  (fun i y s g1 g2 g3 ix hs=>?_) (fun s hs=>?_) _ (by simp[X21])).mono ?_
 ·have h3:=run61 p hf bd i y.1 y.2 (by omega);unfold newP at h3;rw[if_pos (newE_st h0 g1)]at h3;have e:=zpe7 (thS_get (bd:=bd) g1);obtain⟨fn,arg⟩:=y;simp only at h3 e;cases i with
  |zero=>
   have h4:0<p.ts.length:=by omega
   simp[X21,E21]at hs;simp at h3 e;simp[hs,X21,g1,g2,h4,NP,h3,e]
  |succ i=>
   have hr:(i+1+1)*153≤1099511627776:=by omega
   have h4:i+1<p.ts.length:=by omega
   have h5:(i:Int)+1<p.ts.length:=by omega
   have h6:i+1≤p.ts.length:=by omega
   have h7:min (i+1) p.ts.length=i+1:=by omega
   have wS:IntKind.wrap .i64 ((i:Int)+1+1)=i+1+1:=wrap_i64 (by omega) (by omega);simp[X21,E21]at hs;simp at h3;have e':=congrArg (List.map TD) e;simp at e';simp[hs,X21,g1,g2,h4,h5,h6,h7,NP,h3,e,hr,wS]
 ·cases c:p.ts.length with
  |zero=>omega
  |succ n=>
   rw[c]at hs;simp[X21,E21,c]at hs;simp[hs,X21,c]
 ·rintro⟨y,s⟩ ⟨rfl,hq⟩;cases c:p.ts.length with
  |zero=>omega
  |succ n=>
   have e:List.take (n+1) (thS p bd)=thS p bd:=List.take_of_length_le (by simp[c]);rw[c]at hq;simp only[X21,e]at hq;simp[hq,st0,c]
end Go.Am.E

set_option maxRecDepth 10000
set_option maxHeartbeats 16000000
namespace Go.Am.E
open Go.Proofs Go.Ex Go.Rc
def runR (p:Pg) (bd:Int):Ra→List (Int×Int)→Int ⊕ Ra
 |s,[]=>.inr s
 |s,k::r=>match stpR p bd s k.1 k.2 with
  |.inl e=>.inl e
  |.inr (s',_)=>runR p bd s' r
theorem stpR_ne {p:Pg} {bd:Int} {s:Ra} {ag ch e:Int} (h:stpR p bd s ag ch=.inl e):e≠0:=by
 unfold stpR at h
 repeat' split at h
 all_goals first|(cases h;done)|(cases h;first|assumption|decide)
def oU:Int ⊕ Ra→AVal
 |.inl e=>.tup [.dat (RaD stn),.dat (N e)]
 |.inr s=>.tup [.dat (RaD s),.dat (N 0)]
abbrev E27 (bd:Int) (l:List (Int×Int)) (k:Nat):Env:=[(1,.dat (N bd)),(3,.ref ((4,0),0,0) 0),(6,.ref ((7,0),0,0) 0),(8,.ref ((9,0),0,0) 0),(26,.dat (.sl (l.map NP))),(27,.dat (N l.length)),(28,.dat (N k))]
abbrev X27 (p:Pg) (s:Ra):zsa7:=[((4,0),pbox p),((7,0),.plain (.box nilC)),((9,0),rbx s)]
def Q27 (p:Pg) (q:AEx×St):Int ⊕ Ra→Prop
 |.inl e=>q.1=.ret∧endK [.cell 6 12 true,.t 7] false 0 q=some (oU (.inl e),[])
 |.inr s=>q.1=.exit 0∧hd [6,8] [] q.2=some ⟨[(6,.ref ((7,0),0,0) 0),(8,.ref ((9,0),0,0) 0)],X27 p s⟩
theorem loop27 (p:Pg) (hf:Fit p) (bd:Int) (l:List (Int×Int)) (hl:l.length<800):∀(r:List (Int×Int)) (k:Nat) (s:Ra) (st:St),l.drop k=r→Jr k s→
  hd [1,3,6,8,26,27,28] [3,6,8,26] st=some ⟨E27 bd l k,X27 p s⟩→Ev (zga7 (exec K l27_0) st) (fun q=>Q27 p q (runR p bd s r))
 |[],k,s,st,hr,hj,hs=>by
  have hk:l.length≤k:=List.drop_eq_nil_iff.1 hr;have hk':¬(k:Int)<l.length:=by omega
  apply zya7;simp[hs,hk',runR,Q27]
 |a::r,k,s,st,hr,hj,hs=>by
  have hk:k<l.length:=Nat.lt_of_not_le fun h=>by rw[List.drop_eq_nil_iff.2 h]at hr;cases hr
  have hk':(k:Int)<l.length:=by omega
  have ha:l[k]?=some a:=by rw[←List.head?_drop,hr];rfl
  have hr':l.drop (k+1)=r:=by rw[←List.tail_drop,hr];rfl
  obtain⟨a1,a2,a3⟩:=zca7 ha;have ix:Ix k:=by unfold Ix;omega
  have h17:=run17 p hf bd s (hj.sw' (by omega)) a.1 a.2;have ih:=loop27 p hf bd l hl r (k+1);obtain⟨ag,ch⟩:=a;dsimp only at h17;have e:runR p bd s ((ag,ch)::r)=match stpR p bd s ag ch with|.inl e=>.inl e|.inr (s',_)=>runR p bd s' r:=rfl
  rw[e];apply zya7;cases hst:stpR p bd s ag ch with
  |inl e=>
   have hne:=stpR_ne hst;rw[hst]at h17;simp[oR,NP]at h17;simp[hs,hk',ha,a1,a2,a3,ix,NP,h17,hne,Q27,oU,stn]
  |inr x=>
   obtain⟨s',ev⟩:=x;have hj':Jr (k+1) s':=hj.stp (by omega) hst;have ih:=fun st=>ih s' st hr' hj'
   rw[hst]at h17;simp[oR,NP]at h17;simp[hs,hk',ha,a1,a2,a3,ix,NP,h17];exact ih _ (by simp)
theorem Jr.st0 {p:Pg} {bd:Int} (h0:stdE p bd=0):Jr 0 (st0 p bd):=by
 have hp:=(zpd7 h0).1;have hlim:=chP_lim hp;obtain⟨l1,l2,l3⟩:=chP_thr hp
 have ri:∀n,Rw (iniV p n):=fun n v hv=>by
  rw[List.eq_of_mem_replicate hv,List.length_replicate];omega
 have rl:∀n,(iniV p n).length=n:=iniV_len p;have r0:∀{α:Type} (n:Nat),∀l∈List.replicate n ([]:List α),l.length=0:=fun n l hl=>by rw[List.eq_of_mem_replicate hl];rfl
 have hq:(p.cs.map fun _=>([]:List Int)).flatten.length=0:=by
  induction p.cs with
  |nil=>rfl
  |cons a r ih=>simpa using ih
 exact {
  me:=⟨by show (p.vs.map _).length≤8;rw[List.length_map];omega,by show (p.ms.map _).length≤8;rw[List.length_map];omega,by show (p.cs.map _).length≤8;rw[List.length_map];omega,by show 0+(p.cs.map fun _=>([]:List Int)).flatten.length≤0;rw[hq];exact Nat.le_refl _⟩
  th:=by show (thS p bd).length≤8+0;simp[thS];omega
  ts:=fun t ht=>by
   have ht:t∈thS p bd:=ht;simp only[thS,List.mem_map]at ht;obtain⟨⟨a,n⟩,h1,rfl⟩:=ht;rw[newT_id,newT_hd];have:=List.mem_zipIdx h1;dsimp only;exact⟨by omega,by simp⟩
  ms:=by show (List.replicate _ _).length≤8;rw[List.length_replicate];omega
  ml:=fun l hl=>Nat.le_of_eq (r0 _ l hl)
  mw:=fun l hl m hm=>by rw[List.eq_of_mem_replicate hl]at hm;cases hm
  mo:=by show (List.replicate _ _).length≤8;rw[List.length_replicate];omega
  mol:=fun l hl=>Nat.le_of_eq (r0 _ l hl)
  vs:=by show (iniV p p.ts.length).length≤8+0;rw[rl];omega
  vw:=ri _
  lk:=by show (iniV p p.ms.length).length≤8;rw[rl];omega
  lw:=ri _
  sg:=by show (iniV p p.cs.length).length≤8;rw[rl];omega
  sw:=ri _
  ev:=Nat.le_refl _
  rf:=Nat.le_refl _ }
def ranR (p:Pg) (bd:Int) (l:List (Int×Int)):Int ⊕ Ra:=
 if stdE p bd≠0 then .inl (stdE p bd) else if 512<l.length then .inl 4 else runR p bd (st0 p bd) l
theorem run27 (p:Pg) (hf:Fit p) (bd:Int) (l:List (Int×Int)) (hl:l.length<800):K 27 [.agg ((PDl p).map AVal.dat),.dat (N bd),.dat (.sl (l.map NP))] []=some (oU (ranR p bd l),[]):=by
 by_cases h0:stdE p bd=0;rotate_left
 ·have h21:=run21e p hf bd h0;have e:ranR p bd l=.inl (stdE p bd):=by unfold ranR;rw[if_pos h0]
  rw[e];unfold oU;generalize stdE p bd=E at *
  refine ce rfl ?_;simp[h21,h0,stn]
 ·have h21:=run21 p hf bd h0;by_cases h5:512<l.length
  ·have h5':(512:Int)<l.length:=by omega
   have e:ranR p bd l=.inl 4:=by unfold ranR;rw[if_neg (by simp[h0]),if_pos h5]
   rw[e];unfold oU;refine ce rfl ?_;simp[h21,h5',stn]
  ·have h5':¬(512:Int)<l.length:=by omega
   have e:ranR p bd l=runR p bd (st0 p bd) l:=by unfold ranR;rw[if_neg (by simp[h0]),if_neg h5]
   rw[e];have hlp:=loop27 p hf bd l hl l 0 (st0 p bd);have hj:=Jr.st0 h0;generalize st0 p bd=s0 at *
   refine ce rfl ?_;simp[h21,h5'];simp only[zaa7];refine (hlp _ rfl hj (by simp)).mono ?_;rintro⟨y,s'⟩ hq;cases hR:runR p bd s0 l with
   |inl e=>
    rw[hR]at hq;obtain⟨rfl,hq⟩:=hq;simp[hq]
   |inr s2=>
    rw[hR]at hq;obtain⟨rfl,hq⟩:=hq;dsimp only at hq;simp[hq,oU]
end Go.Am.E
