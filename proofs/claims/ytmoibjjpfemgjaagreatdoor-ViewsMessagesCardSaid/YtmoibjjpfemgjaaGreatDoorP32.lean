/- Parts of the proofs of the statement, joined and made short: V25 EW39 EW40 EW41 EW42 V26 V5 V6 VT V27 V8 V9. -/
import Derived.Test.YtmoibjjpfemgjaaGreatDoorP31
import Derived.Test.YtmoibjjpfemgjaaGreatDoorP29
import Derived.Test.YtmoibjjpfemgjaaGreatDoorP30
set_option linter.unusedVariables false
set_option linter.unusedSimpArgs false
set_option linter.unusedSectionVars false
set_option maxRecDepth 10000
set_option maxHeartbeats 16000000
namespace Go.Am.E
open Go.Proofs Go.Ex Go.Rc
attribute [local simp] MsD same_d same_r same_p same_n same_c ztc7 zuc7 zsc7 pairK zyc7 chgOf slim sameAt meets updT
theorem wakP_eq (e:Int) (m:Me) (n:Nat):wakP e m n=.tup [.dat (MD (memM e m)),.dat (N (if e=0 then (n:Int) else 0)),.dat (N e)]:=by
 unfold wakP memM;split
 ·rename_i h;rw[h]
 ·rfl
structure Cn (s:Ra) (ix:Int) (k c:Nat) (v u:List Int):Prop where
 hk:ix=k
 hv:s.vs[k]?=some v
 hu:s.sg[c]?=some u
 hvu:v.length=u.length
 hm:v.length≤s.ms.length
 hl:v.length<1000000
 hml:∀l∈s.ms,l.length<1000000
 ix:Ix k∧Ix c
 me:Mb s.me
abbrev rdE (x:Stq) (d:Int):Stq:={ x with e:={ x.e with rd:=d } }
abbrev muX (x:Stq) (d:Int):Stq:={ x with e:={ x.e with mux:=d } }
def sgX (x:Stq) (k c:Nat) (v u:List Int):Stq:=
 if x.i.op=19 then shS (rdE (meX (koX x 14 c) (memM (inE x.s.me c x.s.me.qu.length) (wakM x.s.me c (min 1 (getq x.s.me c).length))) (inE x.s.me c x.s.me.qu.length)) (if inE x.s.me c x.s.me.qu.length=0 then ((min 1 (getq x.s.me c).length:Nat):Int) else 0)) k c (jnV x.s.ms v u 0)
 else shS (rdE (meX (koX x 15 c) (memM (inE x.s.me c x.s.me.qu.length) (wakM x.s.me c (getq x.s.me c).length)) (inE x.s.me c x.s.me.qu.length)) (if inE x.s.me c x.s.me.qu.length=0 then ((getq x.s.me c).length:Int) else 0)) k c (jnV x.s.ms v u 0)
theorem run94 (x:Stq) (k c:Nat) (v u:List Int) (h:Cn x.s x.ix k c v u) (hi:x.i.o=c) (hop:x.i.op=19∨x.i.op=20):K 94 [.ref ((0,0),0,0) 0] (xO x n0 true)=some (.tup [],xJ (sgX x k c v u) x.s.me):=by
 obtain⟨u1,u2,u3⟩:=zca7 h.hu;have r1:=(zca7 (zvb7 (0,9) x.sp h.hu)).1;have hsq:=h.me.sq c;unfold sgX;rcases hop with hop|hop
 ·have h161:=run161 x.s.me h.me c hsq;rw[if_pos hop];rw[wakP_eq]at h161;generalize memM (inE x.s.me c x.s.me.qu.length) (wakM x.s.me c (min 1 (getq x.s.me c).length))=M at *
  generalize (if inE x.s.me c x.s.me.qu.length=0 then ((min 1 (getq x.s.me c).length:Nat):Int) else 0)=R at *
  generalize inE x.s.me c x.s.me.qu.length=E at *
  have h157:=run157S (rdE (meX (koX x 14 c) M E) R) k c v u h.hk h.hv h.hu h.hvu h.hm h.hl h.hml h.ix;generalize shS (rdE (meX (koX x 14 c) M E) R) k c (jnV x.s.ms v u 0)=Z at *
  simp[xB,xS,xM,aT,fV,fM,fL,fS,xE,eL,eS,hi,hop]at h157;refine ce rfl ?_;simp[h161,h157,hi,hop,h.hu,u1,u2,u3,r1,h.ix.1,h.ix.2]
 ·have h162:=run162 x.s.me h.me c hsq;rw[if_neg (by omega)];rw[wakP_eq]at h162;generalize memM (inE x.s.me c x.s.me.qu.length) (wakM x.s.me c (getq x.s.me c).length)=M at *
  generalize (if inE x.s.me c x.s.me.qu.length=0 then ((getq x.s.me c).length:Int) else 0)=R at *
  generalize inE x.s.me c x.s.me.qu.length=E at *
  have h157:=run157S (rdE (meX (koX x 15 c) M E) R) k c v u h.hk h.hv h.hu h.hvu h.hm h.hl h.hml h.ix;generalize shS (rdE (meX (koX x 15 c) M E) R) k c (jnV x.s.ms v u 0)=Z at *
  simp[xB,xS,xM,aT,fV,fM,fL,fS,xE,eL,eS,hi,hop]at h157;refine ce rfl ?_;simp[h162,h157,hi,hop,h.hu,u1,u2,u3,r1,h.ix.1,h.ix.2]
def wtX (x:Stq) (t:Th) (k i c:Nat) (v o u:List Int):Stq:=
 if t.ph=0 then
  (if ownE x.s.me i x.e.ag x.e.ag=0 then shW (meX (muX (koX x 12 c) i) (memM (enqE (Go.Ex.ownM x.s.me i (-1)) c x.e.ag) (enqM (Go.Ex.ownM x.s.me i (-1)) c x.e.ag)) (enqE (Go.Ex.ownM x.s.me i (-1)) c x.e.ag)) k i c v o u
  else shW (meX (muX (koX x 12 c) i) ⟨[],[],[],[]⟩ (ownE x.s.me i x.e.ag x.e.ag)) k i c v o u)
 else if t.ph=1 then shS (meX (koX x 13 c) (memM (wakE x.s.me x.e.ag) (wokM x.s.me x.e.ag)) (wakE x.s.me x.e.ag)) k c (jnV x.s.ms v u 0)
 else tkX x k i v o
theorem run93 (x:Stq) (t:Th) (k i c:Nat) (v o u:List Int) (h:Mx x.s x.ix k i v o) (h':Cn x.s x.ix k c v u) (ht:x.s.th[k]?=some t) (hi:x.i.o=c) (hn:x.i.n=i):K 93 [.ref ((0,0),0,0) 0] (xO x n0 true)=some (.tup [],xJ (wtX x t k i c v o u) x.s.me):=by
 obtain⟨t1,t2,t3⟩:=zca7 ht;obtain⟨o1,o2,o3⟩:=zca7 h.ho;obtain⟨u1,u2,u3⟩:=zca7 h'.hu;have r1:=(zca7 (zvb7 (0,9) x.sp h'.hu)).1;have r2:=(zca7 (zvb7 (0,8) x.lp h.ho)).1;have hk:=h.hk;unfold wtX;by_cases p0:t.ph=0
 ·rw[if_pos p0];have h156:=run156 x.s.me h.me i x.e.ag;rw[memP_eq]at h156;by_cases e0:ownE x.s.me i x.e.ag x.e.ag=0
  ·rw[if_pos e0];rw[e0]at h156;have h159:=run159 (Go.Ex.ownM x.s.me i (-1)) (ownM_mb h.me i (-1)) c x.e.ag;rw[memP_eq]at h159;have eM:memM 0 (Go.Ex.ownM x.s.me i (-1))=Go.Ex.ownM x.s.me i (-1):=rfl;rw[eM]at h156;generalize memM (enqE (Go.Ex.ownM x.s.me i (-1)) c x.e.ag) (enqM (Go.Ex.ownM x.s.me i (-1)) c x.e.ag)=M at *
   generalize enqE (Go.Ex.ownM x.s.me i (-1)) c x.e.ag=E at *
   generalize Go.Ex.ownM x.s.me i (-1)=M1 at *
   have h157:=run157W (meX (muX (koX x 12 c) i) M E) k i c v o u h.hk h.hv h.ho h'.hu h.hvo h'.hvu h.hm h.hl h.hml ⟨h.ix.1,h.ix.2,h'.ix.2⟩;generalize shW (meX (muX (koX x 12 c) i) M E) k i c v o u=Z at *
   simp[xB,xS,xM,aT,fV,fM,fL,fS,xE,eL,eS,hi,hn,hk]at h157;refine ce rfl ?_;simp[ht,t1,t2,t3,p0,h156,h159,h157,hi,hn,hk,h.ho,o1,o2,o3,h'.hu,u1,u2,u3,r1,r2,h.ix.1,h.ix.2,h'.ix.2]
  ·rw[if_neg e0];have eM:memM (ownE x.s.me i x.e.ag x.e.ag) (Go.Ex.ownM x.s.me i (-1))=⟨[],[],[],[]⟩:=if_neg e0;rw[eM]at h156;generalize ownE x.s.me i x.e.ag x.e.ag=E at *
   have h157:=run157W (meX (muX (koX x 12 c) i) ⟨[],[],[],[]⟩ E) k i c v o u h.hk h.hv h.ho h'.hu h.hvo h'.hvu h.hm h.hl h.hml ⟨h.ix.1,h.ix.2,h'.ix.2⟩;generalize shW (meX (muX (koX x 12 c) i) ⟨[],[],[],[]⟩ E) k i c v o u=Z at *
   simp[xB,xS,xM,aT,fV,fM,fL,fS,xE,eL,eS,hi,hn,hk]at h157;refine ce rfl ?_;simp[ht,t1,t2,t3,p0,e0,h156,h157,hi,hn,hk,h.ho,o1,o2,o3,h'.hu,u1,u2,u3,r1,r2,h.ix.1,h.ix.2,h'.ix.2]
 ·rw[if_neg p0];by_cases p1:t.ph=1
  ·rw[if_pos p1];have h160:=run160 x.s.me h.me x.e.ag;rw[memP_eq]at h160;generalize memM (wakE x.s.me x.e.ag) (wokM x.s.me x.e.ag)=M at *
   generalize wakE x.s.me x.e.ag=E at *
   have h157:=run157S (meX (koX x 13 c) M E) k c v u h.hk h.hv h'.hu h'.hvu h.hm h.hl h.hml h'.ix;generalize shS (meX (koX x 13 c) M E) k c (jnV x.s.ms v u 0)=Z at *
   simp[xB,xS,xM,aT,fV,fM,fL,fS,xE,eL,eS,hi,hn,hk]at h157;refine ce rfl ?_;simp[ht,t1,t2,t3,p0,p1,h160,h157,hi,hn,hk,h'.hu,u1,u2,u3,r1,h.ix.1,h'.ix.2]
  ·rw[if_neg p1];have h155:=run155 x k i v o h;generalize tkX x k i v o=Z at *
   simp[xB,xS,xM,hi,hn,hk]at h155;refine ce rfl ?_;simp[ht,t1,t2,t3,p0,p1,h155,hi,hn,hk,h.ix.1]
end Go.Am.E

set_option maxRecDepth 10000
set_option maxHeartbeats 8000000
namespace Go.Am.E
open Go.Proofs Go.Ex Go.Rc
@[simp] theorem cNP (p:Int×Int):(NP p).cells.length=2:=rfl
@[simp] theorem cBD (b:Bu):(BD b).cells.length=3:=rfl
abbrev nil6:TObj:=.plain (.box [.nils,.nils,.nils,.nils,.nils,.nils])
abbrev tA (v:Nat) (l:List Th):TObj:=.plain (.arr 17 v false (l.map TD))
abbrev bA (v:Nat) (l:List Bu):TObj:=.plain (.arr 3 v false (l.map BD))
abbrev fQ (m:Me):TObj:=.fam 0 m.qu.length false (m.qu.map ownC)
abbrev SV (s:Sa):AVal:=.agg [.rsl ((0,0),0,0) 0 17 0 s.th.length,.rsl ((0,1),0,0) 0 1 0 s.me.va.length,.rsl ((0,2),0,0) 0 1 0 s.me.ow.length,.rsl ((0,3),0,0) 0 1 0 s.me.qu.length,.rsl ((0,4),0,0) 0 1 0 s.me.sg.length,.rsl ((0,5),0,0) 0 3 0 s.bu.length]
abbrev SO (s:Sa):List TObj:=[tA 0 s.th,aI 0 s.me.va,aI 0 s.me.ow,fQ s.me,aI 0 s.me.sg,bA 0 s.bu]
abbrev X252 (s:Sa):zsa7:=[((2,0),sbx s),((3,0),nil6),((4,0),.plain (.box [.rsl ((4,1),0,0) 0 17 0 s.th.length,.rsl ((4,2),0,0) 0 1 0 s.me.va.length,.rsl ((4,3),0,0) 0 1 0 s.me.ow.length,.rsl ((4,4),0,0) 0 1 0 s.me.qu.length,.rsl ((4,5),0,0) 0 1 0 s.me.sg.length,.nils])),
 ((4,1),tA 0 s.th),((4,2),aI 0 s.me.va),((4,3),aI 0 s.me.ow),((4,4),fQ s.me),((4,5),aI 0 s.me.sg)]
abbrev X252b (s:Sa):zsa7:=[((2,0),sbx s),((3,0),nil6),((4,0),.plain (.box [.rsl ((4,1),0,0) 0 17 0 s.th.length,.rsl ((4,2),0,0) 0 1 0 s.me.va.length,.rsl ((4,3),0,0) 0 1 0 s.me.ow.length,.rsl ((4,4),0,0) 0 1 0 s.me.qu.length,.rsl ((4,5),0,0) 0 1 0 s.me.sg.length,.rsl ((4,6),0,0) 0 3 0 s.bu.length])),
 ((4,1),tA 0 s.th),((4,2),aI 0 s.me.va),((4,3),aI 0 s.me.ow),((4,4),fQ s.me),((4,5),aI 0 s.me.sg),((4,6),bA 0 s.bu)]
abbrev R252:Env:=[(1,.ref ((2,0),0,0) 0),(2,.ref ((3,0),0,0) 0),(3,.ref ((4,0),0,0) 0)]
end Go.Am.E

set_option maxRecDepth 10000
set_option maxHeartbeats 8000000
namespace Go.Am.E
open Go.Proofs Go.Ex Go.Rc
def posT (id:Int):List Th→Nat
 |[]=>0
 |t::r=>if t.id<id then posT id r+1 else 0
theorem posT_le (id:Int):∀l:List Th,posT id l≤l.length
 |[]=>Nat.le_refl _
 |t::r=>by
  have:=posT_le id r;simp only[posT,List.length_cons];split<;>omega
def psF (id:Int) (i:Nat) (t:Th):Option Nat:=if t.id<id then none else some i
theorem psF_scan (id:Int):∀(l:List Th) (k:Nat),(match scan (psF id) l k with|some i=>i|none=>k+l.length)=k+posT id l
 |[],k=>rfl
 |t::r,k=>by
  have ih:=psF_scan id r (k+1);by_cases c:t.id<id
  ·simp only[scan,psF,c,if_true,posT,List.length_cons];rw[show k+(r.length+1)=k+1+r.length by omega,ih];omega
  ·simp only[scan,psF,c,if_false,posT];rfl
abbrev NV6:AVal:=.agg [.nils,.nils,.nils,.nils,.nils,.nils]
theorem decL_dat (ρ:Look):∀{l:List Dat},(∀d∈l,d.isAgg=false)→zqa7 ρ (l.map AVal.dat)=some (l,[])
 |[],_=>rfl
 |d::r,h=>by
  have ih:=decL_dat ρ (l:=r) fun x hx=>h x (by simp[hx])
  simp only[List.map_cons,zqa7,zpb7,ih,h d (by simp)];simp
@[simp] theorem TDc_decL (ρ:Look) (t:Th):zqa7 ρ (TDc t)=some (TDl t,[]):=decL_dat ρ (TDl_noagg t)
abbrev B255 (p:Pg) (s:Sa) (t:Th):zsa7:=[((0,0),tA 0 s.th),((0,1),aI 0 s.me.va),((0,2),aI 0 s.me.ow),((0,3),fQ s.me),((0,4),aI 0 s.me.sg),((0,5),bA 0 s.bu),((7,0),pbox p),
 ((9,0),.plain (.box [.rsl ((0,0),0,0) 0 17 0 s.th.length,.rsl ((0,1),0,0) 0 1 0 s.me.va.length,.rsl ((0,2),0,0) 0 1 0 s.me.ow.length,.rsl ((0,3),0,0) 0 1 0 s.me.qu.length,.rsl ((0,4),0,0) 0 1 0 s.me.sg.length,.rsl ((0,5),0,0) 0 3 0 s.bu.length])),
 ((13,0),nil6),((17,0),.plain (.box (TDc t)))]
abbrev E255 (id:Int):Env:=[(3,.dat (N id)),(8,.ref ((9,0),0,0) 0),(12,.ref ((13,0),0,0) 0),(16,.ref ((17,0),0,0) 0)]
abbrev E255':Env:=[(8,.ref ((9,0),0,0) 0),(12,.ref ((13,0),0,0) 0),(16,.ref ((17,0),0,0) 0)]
def Q255 (p:Pg) (s:Sa) (t:Th) (k:Nat) (q:AEx×St):Prop:=q.1=.exit 0∧hd [8,12,16,18] [] q.2=some ⟨E255'++[(18,.dat (N k))],B255 p s t⟩
abbrev SV7 (s:Sa) (l:List Th):AVal:=.agg [.rsl ((0,6),0,0) 0 17 0 l.length,.rsl ((0,1),0,0) 0 1 0 s.me.va.length,.rsl ((0,2),0,0) 0 1 0 s.me.ow.length,.rsl ((0,3),0,0) 0 1 0 s.me.qu.length,.rsl ((0,4),0,0) 0 1 0 s.me.sg.length,.rsl ((0,5),0,0) 0 3 0 s.bu.length]
end Go.Am.E

set_option maxRecDepth 10000
set_option maxHeartbeats 8000000
namespace Go.Am.E
open Go.Proofs Go.Ex Go.Rc
theorem setl_same (p:Pg) (bd:Int):∀(k:Nat) (t:Th),(setl p bd k t).id=t.id∧(setl p bd k t).fn=t.fn∧(setl p bd k t).hd=t.hd
 |k,t=>by
  rw[setl];split
  ·exact⟨rfl,rfl,rfl⟩
  ·rename_i i hi;split
   ·split
    ·exact⟨rfl,rfl,rfl⟩
    ·split<;>exact⟨rfl,rfl,rfl⟩
   ·cases k with
    |zero=>exact⟨rfl,rfl,rfl⟩
    |succ k=>
     have h:=locT_same t i;simp only;split
     ·rename_i t' hl;rw[hl]at h;have ih:=setl_same p bd k t';exact⟨ih.1.trans h.1,ih.2.1.trans h.2.1,ih.2.2.trans h.2.2⟩
     ·rename_i t' hl;rw[hl]at h;exact h
end Go.Am.E

set_option maxRecDepth 10000
set_option maxHeartbeats 16000000
namespace Go.Am.E
open Go.Proofs Go.Ex Go.Rc
def stepR (r:Res):AVal×List TObj:=if r.1=0 then (.tup [SV r.2.1,EV r.2.2,.dat (N 0)],SO r.2.1) else (.tup [NV6,EV noEv,.dat (N r.1)],[])
theorem cmpT_id {p:Pg} {bd:Int} {t:Th} {v:Int}:(cmpT p bd t v).id=t.id:=by
 unfold cmpT;split
 ·rw[(setl_same _ _ _ _).1,(nxtT_same _ _ _).2.1]
 ·rfl
theorem newT_id (p:Pg) (bd id fn arg:Int):(newT p bd id fn arg).id=id:=by
 unfold newT;rw[(setl_same _ _ _ _).1];rfl
end Go.Am.E

set_option maxRecDepth 10000
set_option maxHeartbeats 16000000
namespace Go.Am.E
open Go.Proofs Go.Ex Go.Rc
attribute [local simp] same_d same_r same_p same_n same_c ztc7 zuc7 zsc7 pairK zyc7 chgOf slim sameAt meets updT
theorem run164 (tv n i v2:Nat) (th:List Th) (c:Th) (hn:n=th.length) (hi:i≤n) (hl:th.length<1000000):K 164 [.rsl ((0,0),0,0) tv 17 0 n,.dat (N i),.rsl ((0,1),0,0) v2 17 0 1] [.plain (.arr 17 tv false (th.map TD)),.plain (.arr 17 v2 false [TD c])]=
  some (.rsl ((0,0),0,0) (tv+1) 17 0 (n+1),[.plain (.arr 17 (tv+1) false ((ins th i c).map TD)),.plain (.arr 17 v2 false [TD c])]):=by
 subst hn;refine zjf7 rfl ?_;have e:(ins th i c).map TD=insD (th.map TD) i (TD c):=by simp[ins,insD]
 have hi':(i:Int)≤th.length:=by omega
 have hi0:(0:Int)≤i:=by omega
 have hr:(th.length+1)*(152+1)≤1099511627776:=by omega
 simp only[tblE,lawE,memoL,insV];rw[e];simp[insK,zpa7,flatE,hi',hi0,hr,inPos,putAll]
abbrev dC (q:List Int):Cell:=.d (q.map N)
theorem run165 (vp n i v2 k:Nat) (vs:List (List Int)) (w:List Int) (hk:vs[k]?=some w) (hn:n=vs.length) (hi:i≤n) (hl:vs.length<1000000):K 165 [.rsl ((0,0),0,0) 0 1 0 n,.dat (N i),.rsl ((0,1),0,0) v2 1 0 1] [.fam 0 vp false ((vs.map ownC).set k (.own true true 1 (w.map N))),.plain (.arr 1 v2 false [.sl (w.map N)])]=
  some (.rsl ((0,0),0,0) 1 1 0 (n+1),[.fam 1 (vp+1) false ((ins vs i w).map dC),.plain (.arr 1 v2 false [.sl (w.map N)])]):=by
 subst hn;refine zjf7 rfl ?_;have hi':(i:Int)≤vs.length:=by omega
 have hi0:(0:Int)≤i:=by omega
 have hr:(vs.length+1)*(24+1)≤1099511627776:=by omega
 have e1:((vs.map ownC).set k (.own true true 1 (w.map N))).map Cell.dat=vs.map Ns:=by
  rw[List.map_set,List.map_map]
  show (vs.map Ns).set k (Ns w)=vs.map Ns
  exact set_sameV Ns hk
 have e2:((vs.map ownC).set k (.own true true 1 (w.map N))).all Cell.fresh=true:=by
  rw[List.all_eq_true];intro c hc;rcases List.mem_or_eq_of_mem_set hc with hc|rfl
  ·obtain⟨q,-,rfl⟩:=List.mem_map.1 hc;rfl
  ·rfl
 have e3:famD (insD (vs.map Ns) i (.sl (w.map N)))=(ins vs i w).map dC:=by
  simp[famD,insD,ins,slOf];rfl
 simp only[tblE,lawE,memoL,insV,insF];simp[hi',hi0,hr,e2];have e4:(vs.map Ns).set k (.sl (w.map N))=vs.map Ns:=set_sameV Ns hk;rw[e4];exact e3
def spX (x:Stq) (k n:Nat) (w:List Int) (c:Th):Stq:={ x with s:={ x.s with th:=ins x.s.th n c,vs:=ins x.s.vs n w },e:={ x.e with kind:=16,obj:=c.id },re:=c.id,ix:=if n≤k then (k:Int)+1 else k,tv:=x.tv+1,vp:=x.vp+1 }
abbrev xQB (x:Stq):TObj:=.plain (.box ((PDl x.p).map AVal.dat++.dat (N x.bd)::(xS x n0 true).take 6++[.rsl ((0,7),0,0) 1 1 0 x.s.vs.length]++(xS x n0 true).drop 7++.dat (N x.ix)::.dat (N x.ch)::[.dat (N x.i.op),.dat (N x.i.a),.dat (N x.i.b),.dat (N x.i.c),.dat (N x.i.o),.dat (N x.i.n),.dat (N x.i.f),.dat (N x.i.r),.dat (N x.e.ag),.dat (N x.e.idx),.dat (N x.e.kind),.dat (N x.e.obj),.dat (N x.e.mux),.dat (N x.e.ent),.dat (N x.e.ord),.dat (N x.e.rd),.dat (N x.e.wr),.dat (N x.rf),.dat (N x.re),.dat (N x.er)]))
abbrev xQ (x:Stq):List TObj:=xQB x::aT x::xM x true++fM x::.fam 1 x.vp false (x.s.vs.map dC)::fL x::fS x::xE x
abbrev erX (x:Stq) (e:Int):Stq:={ x with er:=e }
theorem run95e (x:Stq) (t:Th) (k:Nat) (hf:Fit x.p) (hk:x.ix=k) (ht:x.s.th[k]?=some t) (hix:Ix k) (hid:t.id<10000000000000) (hl:x.s.th.length<1000000) (hr:rgs x.i) (hop:x.i.op=21)
  (he:∀c,chd t=some c→(fndT x.s.th c).isSome=true∨newE x.p x.bd c x.i.o (reg t x.i.b)≠0) (hc:∀c,chd t=some c→c<100000000000000):K 95 [.ref ((0,0),0,0) 0] (xO x n0 true)=some (.tup [],xO (erX x 30) n0 true):=by
 obtain⟨t1,t2,t3⟩:=zca7 ht;have r2:=hr.2.1;rw[hop]at r2;obtain⟨j,hj,j1,j2,j3,j4⟩:=rg8 (r2 rfl);have h163:=run163 t (by omega);unfold chdP at h163;cases h1:chd t with
 |none=>
  rw[h1]at h163;have h36:=run36 x.s.th 0 (by omega);unfold fndP at h36;refine ce rfl ?_;cases h2:fndT x.s.th 0<;>rw[h2]at h36<;>simp at h163 h36<;>simp[ht,t1,t2,t3,hk,hix,h163,h36]
 |some c=>
  rw[h1]at h163;have h36:=run36 x.s.th c (by omega);unfold fndP at h36;cases h2:fndT x.s.th c with
  |some i=>
   rw[h2]at h36;refine ce rfl ?_;simp at h163 h36;simp[ht,t1,t2,t3,hk,hix,h163,h36]
  |none=>
   rw[h2]at h36
   have hE:newE x.p x.bd c x.i.o (reg t x.i.b)≠0:=by
    have:=he c h1;rw[h2]at this;simpa using this
   have h61:=run61 x.p hf x.bd c x.i.o (reg t x.i.b) (hc c h1);unfold newP at h61;rw[if_neg hE]at h61;generalize newE x.p x.bd c x.i.o (reg t x.i.b)=E at *
   refine ce rfl ?_;simp[hj,reg]at h61;simp at h163 h36;simp[ht,t1,t2,t3,hk,hix,h163,h36,h61,hj,j1,j2,j3,j4,zqb7,zjd7,reg,hE]
@[simp] abbrev B95 (x:Stq) (t C:Th):zsa7:=enum 0 (xO x n0 true)++[((3,0),.plain (.box (TDc t))),((8,0),.plain (.box (TDc C)))]
def Q95 (x:Stq) (t C:Th) (n:Nat) (q:AEx×St):Prop:=q.1=.exit 0∧hd [0,7,9] [] q.2=some ⟨[(0,.ref ((0,0),0,0) 0),(7,.ref ((8,0),0,0) 0),(9,.dat (N n))],B95 x t C⟩
theorem loop95 (x:Stq) (t C:Th) (c:Int) (hl:x.s.th.length<1000000) (st:St) (h:hd [0,3,7,9] [] st=some ⟨[(0,.ref ((0,0),0,0) 0),(3,.dat (N c)),(7,.ref ((8,0),0,0) 0),(9,.dat (N 0))],B95 x t C⟩):
  Ev (zga7 (exec K l95_0) st) (Q95 x t C (posT c x.s.th)):=by
 have e:=psF_scan c x.s.th 0;simp only[Nat.zero_add]at e;rw[←e]
 refine (zzb7 (live:=[0,3,7,9]) (drop:=[]) x.s.th (psF c) (by omega) (fun n=>⟨[(0,.ref ((0,0),0,0) 0),(3,.dat (N c)),(7,.ref ((8,0),0,0) 0),(9,.dat (N n))],B95 x t C⟩) (Q95 x t C x.s.th.length) (fun n=>Q95 x t C n)
  (fun i y s' h1 h2 h3 ix hs'=>?_) (fun s' hs'=>?_) st h).mono ?_
 ·by_cases cc:y.id<c<;>simp[hs',h1,h2,h3,ix,psF,cc,Q95,enum,xM,xB,xS]
 ·simp[hs',Q95,enum,xM,xB,xS]
 ·intro q hq;cases cc:scan (psF c) x.s.th 0<;>rw[cc]at hq<;>exact hq
theorem run95 (x:Stq) (t:Th) (k:Nat) (w:List Int) (c:Int) (hf:Fit x.p) (hk:x.ix=k) (ht:x.s.th[k]?=some t) (hw:x.s.vs[k]?=some w) (hwl:w.length<1000000) (hix:Ix k) (hid:t.id<10000000000000) (hl:x.s.th.length<1000000) (hvl:x.s.vs.length=x.s.th.length) (hr:rgs x.i) (hop:x.i.op=21)
  (h1:chd t=some c) (h2:fndT x.s.th c=none) (h3:newE x.p x.bd c x.i.o (reg t x.i.b)=0) (hc:c<100000000000000):K 95 [.ref ((0,0),0,0) 0] (xO x n0 true)=some (.tup [],xQ (spX x k (posT c x.s.th) w (newT x.p x.bd c x.i.o (reg t x.i.b)))):=by
 obtain⟨t1,t2,t3⟩:=zca7 ht;have r2:=hr.2.1;rw[hop]at r2;obtain⟨j,hj,j1,j2,j3,j4⟩:=rg8 (r2 rfl);have h163:=run163 t (by omega);unfold chdP at h163;rw[h1]at h163;have h36:=run36 x.s.th c (by omega);unfold fndP at h36;rw[h2]at h36;have h61:=run61 x.p hf x.bd c x.i.o (reg t x.i.b) hc;unfold newP at h61;rw[if_pos h3]at h61;simp[hj,reg]at h61;simp at h163 h36;have hCi:=newT_id x.p x.bd c x.i.o (reg t x.i.b);generalize hC:newT x.p x.bd c x.i.o (reg t x.i.b)=C at *
 simp[hj,reg]at hC;rw[hC]at h61;have hlp:=loop95 (reX (koX x 16 c) c) t C c hl;have hn:=posT_le c x.s.th;rw[show (reX (koX x 16 c) c).s.th=x.s.th from rfl]at hlp;generalize posT c x.s.th=n at *
 have h67:=run67 w (by omega);have h164:=fun v2=>run164 x.tv x.s.th.length n v2 x.s.th C rfl hn hl
 have h165:=fun v2=>run165 x.vp x.s.vs.length n v2 k x.s.vs w hw rfl (by omega) (by omega)
 obtain⟨w1,w2,w3⟩:=zca7 hw;have r1:=(zca7 (zvb7 (0,7) x.vp hw)).1;refine ce rfl ?_;simp[ht,t1,t2,t3,hk,hix,h163,h36,h61,hj,j1,j2,j3,j4,zqb7,zjd7,reg];simp only[zaa7];refine (hlp _ (by simp[hk,hj,enum,xM,xB,xS])).mono ?_;rintro⟨y,s'⟩ ⟨rfl,hq⟩;dsimp only at hq;have L1:=zte7 x.s.th n C hn;have L2:=zte7 x.s.vs n w (by omega);by_cases hnk:n≤k
 ·have hnk':(n:Int)≤k:=by omega
  simp[hq,enum,xM,xB,xS,hk,hix,hw,w1,w2,w3,r1,h67,h164,h165,hnk'];simp[spX,hCi,hnk,L1,L2]
 ·have hnk':¬(n:Int)≤k:=by omega
  simp[hq,enum,xM,xB,xS,hk,hix,hw,w1,w2,w3,r1,h67,h164,h165,hnk'];simp[spX,hCi,hnk,L1,L2,hk]
end Go.Am.E

set_option maxRecDepth 10000
set_option maxHeartbeats 4000000
namespace Go.Am.E
open Go.Proofs Go.Ex Go.Rc
attribute [-simp] splice
attribute [local simp] zma7
def rdyR (s:Ra) (t:Th) (i:In):Bool:=
 if i.op=15 then freM s.me i.o
 else if i.op=18 then (if t.ph=1 then s.me.sg.contains t.id else decide (t.ph=0)||freM s.me i.n)
 else if i.op=22 then (match fndT s.th (reg t i.b) with
  |some k=>match s.th[k]? with
   |some u=>decide (u.ss=2∨u.ss=3)
   |none=>false
  |none=>false)
 else true
theorem run79 (s:Ra) (hth:s.th.length<100000000000) (hme:Mb s.me) (t:Th) (i:In) (hr:rgs i):K 79 [.dat (RaD s),.dat (TD t),.dat (ID i)] []=some (.dat (.bool (rdyR s t i)),[]):=by
 have r2:=hr.2.1;refine ce rfl ?_;unfold rdyR;by_cases o15:i.op=15
 ·have h1:=run141 s.me hme i.o;simp[o15,h1]
 by_cases o18:i.op=18
 ·have h1:=run141 s.me hme i.n;have h2:=run42 s.me.sg t.id (by have:=hme.sg;omega);by_cases c1:t.ph=1
  ·generalize s.me.sg.contains t.id=R at *
   simp[o18,c1,h2]
  ·by_cases c2:t.ph=0<;>simp[o18,c1,c2,h1]
 by_cases o22:i.op=22
 ·rw[o22]at r2;obtain⟨j,hj,j1,j2,j3,j4⟩:=rg8 (r2 rfl);have h1:=run36 s.th (t.rg j) (by omega);unfold fndP at h1;cases c:fndT s.th (t.rg j) with
  |none=>
   simp only[c]at h1;simp[o22,hj,j1,j2,j3,j4,zqb7,zjd7,reg,h1,c]
  |some k=>
   simp only[c]at h1;obtain⟨u,t1,t2⟩:=fndT_get c;have t3:=(List.getElem?_eq_some_iff.1 t1).2;have k1:=(List.getElem?_eq_some_iff.1 t1).1;have k2:(k:Int)<s.th.length:=by omega
   by_cases c2:u.ss=2
   ·simp[o22,hj,j1,j2,j3,j4,zqb7,zjd7,reg,h1,c,t1,t3,k1,k2,c2]
   ·by_cases c3:u.ss=3<;>simp[o22,hj,j1,j2,j3,j4,zqb7,zjd7,reg,h1,c,t1,t3,k1,k2,c2,c3]
 simp[o15,o18,o22]
end Go.Am.E

set_option maxRecDepth 10000
set_option maxHeartbeats 8000000
namespace Go.Am.E
open Go.Proofs Go.Ex Go.Rc
attribute [-simp] splice
attribute [local simp] zma7
structure Rv (p:Pg) (s:Ra):Prop where
 hf:Fit p
 hp:chP p=0
 me:Mb s.me
 th:s.th.length<1000000
 tb:∀t∈s.th,Tb t
 ms:s.ms.length=p.vs.length
 mo:s.mo.length=p.vs.length
 ml:∀l∈s.ms,l.length<1000000
 ev:∀x,∀m∈gt2 s.ms x,0≤m.ev∧m.ev<s.ev.length
structure Pi (p:Pg) (i:In):Prop where
 hp:chP p=0
 ii:∃n,insE p n i=0
theorem Pi.reg {p:Pg} {i:In} (h:Pi p i):rgs i:=by
 obtain⟨n,hn⟩:=h.ii;exact (chI_ok (zde7 hn).1).2.1
theorem Pi.va {p:Pg} {i:In} (h:Pi p i) (ho:i.op=8∨i.op=9∨i.op=10∨i.op=11∨i.op=12∨i.op=14):∃x:Nat,i.o=x∧x<p.vs.length:=by
 obtain⟨n,hn⟩:=h.ii;have h1:=(zde7 hn).2.2.1;have e:nob p i.op=p.vs.length:=by unfold nob;rw[if_pos ho]
 rw[e]at h1;have:=h1 (by omega);exact⟨i.o.toNat,by omega,by omega⟩
theorem pen_pi {p:Pg} {t:Th} {i:In} (hp:chP p=0) (hb:Tb t) (h:penT p t=some i):Pi p i∧vis i.op=true∧t.ss=1∧okT p 32 t=true∧insT p t=some i:=by
 unfold penT at h;split at h
 ·rename_i c;obtain⟨hfr,j,hj,hv,-⟩:=okT_run c.2 c.1;rw[hj]at h;obtain rfl:=Option.some.inj h;have hr:=frmT_in hb hfr;exact⟨⟨hp,_,(insT_ok hp hr.i hj).1⟩,hv,c.1,c.2,hj⟩
 ·cases h
theorem penP_pen {p:Pg} (hp:chP p=0) (t:Th):penP p t=insP (penT p t):=by
 have h:stdE p 32=0:=by simp[stdE,hp]
 unfold penP penT;simp only[vldT,h,decide_true,Bool.true_and];split<;>rfl
theorem acc_op {n:Int} (h:acc n=true):n=8∨n=9∨n=10∨n=11∨n=12∨n=14:=by
 simp[acc]at h;omega
def pk (P:Nat→Bool) (n:Nat):List Int:=((List.range n).filter P).map fun k:Nat=>(k:Int)
theorem pk_s (P:Nat→Bool) (n:Nat):pk P (n+1)=pk P n++if P n=true then [(n:Int)] else []:=by
 unfold pk;rw[List.range_succ,List.filter_append,List.map_append];cases h:P n<;>simp[h]
theorem pk_len (P:Nat→Bool) (n:Nat):(pk P n).length≤n:=by
 have:=List.length_filter_le P (List.range n);simpa[pk]using this
def chs (p:Pg) (s:Ra) (t:Th) (v:List Int):List Int:=match penT p t with
 |none=>[]
 |some i=>if acc i.op=true then pk (posB p s t i (posM (gt2 s.ms i.o.toNat) ((v[i.o.toNat]?).getD 0))) ((gt2 s.ms i.o.toNat).length+2) else if rdyR s t i=true then [0] else []
abbrev E37 (n:Nat) (fl:Int) (o:List Int) (d:Nat):Env:=[(3,.ref ((4,0),0,0) 0),(4,.ref ((5,0),0,0) 0),(7,.ref ((8,0),0,0) 0),(8,.ref ((9,0),0,0) 0),(10,.dat (N fl)),(11,.rsl ((12,0),0,0) o.length 1 0 o.length),(55,.dat (N ((n:Int)+2))),(56,.dat (N d))]
abbrev X37 (p:Pg) (s:Ra) (t:Th) (i:In) (o:List Int):zsa7:=[((4,0),.plain (.box ((PDl p).map AVal.dat))),((5,0),.plain (.box ((RaDl s).map AVal.dat))),((8,0),.plain (.box (TDc t))),((9,0),.plain (.box (IDc i))),((12,0),.plain (.arr 1 o.length false (o.map N)))]
theorem run37 (p:Pg) (s:Ra) (h:Rv p s) (k:Nat) (t:Th) (v:List Int) (ht:s.th[k]?=some t) (hv:s.vs[k]?=some v) (hl:v.length=s.ms.length):K 37 [.dat (PD p),.dat (RaD s),.dat (N k)] []=some (.dat (Ns (chs p s t v)),[]):=by
 have hb:=h.tb t (List.mem_of_getElem? ht);have h43:=run43 p h.hf t hb;rw[penP_pen h.hp]at h43;obtain⟨t1,t2,t3⟩:=zca7 ht;have ixk:Ix k:=by have:=h.th;unfold Ix;omega
 refine ce rfl ?_;unfold chs;cases hpn:penT p t with
 |none=>
  rw[hpn]at h43;simp only[insP]at h43;simp[ht,t1,t2,t3,ixk,h43]
 |some i=>
  rw[hpn]at h43;simp only[insP]at h43;obtain⟨P,hvs,-⟩:=pen_pi h.hp hb hpn;have h78:=run78 i.op;dsimp only;cases hac:acc i.op
  ·rw[hac]at h78;have h79:=run79 s (by have:=h.th;omega) h.me t i P.reg;rw[if_neg (by decide)];cases hrd:rdyR s t i
   ·rw[hrd]at h79;simp[ht,t1,t2,t3,ixk,h43,h78,h79]
   ·rw[hrd]at h79;simp[ht,t1,t2,t3,ixk,h43,h78,h79]
  ·rw[hac]at h78;rw[if_pos rfl];have hop:=acc_op hac;obtain⟨x,hx,hxp⟩:=P.va hop;have hxm:x<s.ms.length:=by have:=h.ms;omega
   have hx1:=List.getElem?_eq_getElem hxm;have hg:=zwd7 hx1;obtain⟨x2,x3,x4⟩:=zca7 hx1;have hy1:=List.getElem?_eq_getElem (show x<v.length by omega);obtain⟨y2,y3,y4⟩:=zca7 hy1;obtain⟨w1,w2,w3⟩:=zca7 hv;have hln:=h.ml _ (List.getElem_mem hxm);have h80:=run80 s x _ hx1 (by omega) (v[x]);have h81:=fun k hk=>run81 p s t i (posM (gt2 s.ms x) (v[x])) k x hx hxm hxp (by rw[hg];exact hln) (h.ev x) hk P.reg hop
   rw[hx,Int.toNat_natCast,hy1,Option.getD_some];rw[hg]at h81 ⊢;generalize v[x]=e at *
   generalize s.ms[x]=l at *
   generalize posM l e=fl at *
   have hw:IntKind.wrap .i64 ((l.length:Int)+2)=(l.length+2:Nat):=by rw[wrap_i64 (by omega) (by omega)];rfl
   generalize posB p s t i fl=B at *
   simp[ht,t1,t2,t3,ixk,h43,h78,hv,w1,w2,w3,hx,hx1,x2,x3,x4,hy1,y2,y3,y4,h80,hw];simp only[zaa7];have hlen:=pk_len B
   refine (ev_for (live:=[3,4,7,8,10,11,55,56]) (drop:=[3,4,7,8,11]) (l.length+2) (fun d=>⟨E37 l.length fl (pk B d) d,X37 p s t i (pk B d)⟩)
    (fun d q=>q.1=.exit 0∧hd [11] [] q.2=some ⟨[(11,.rsl ((12,0),0,0) (pk B (l.length+2)).length 1 0 (pk B (l.length+2)).length)],X37 p s t i (pk B (l.length+2))⟩)
    (fun d st hd' hs=>?_) (fun st hs=>?_) (l.length+2) 0 _ (by omega) (by simp[pk])).mono ?_
   ·have g1:=h81 d (by omega);have g2:=pk_s B d;have g3:=hlen d;have g4:((pk B d).length+1)*9≤1099511627776:=by omega
    have g5:(d:Int)<(l.length:Int)+2:=by omega
    have g6:Ix d:=by unfold Ix;omega
    generalize B d=b at *
    cases b
    ·simp at g2;simp[hs,g1,g2,g5,g6]
    ·simp at g2;simp[hs,g1,g2,g4,g5,g6]
   ·simp[hs]
   ·rintro⟨y,st⟩ ⟨rfl,hq⟩;simp[hq]
end Go.Am.E

set_option maxRecDepth 10000
set_option maxHeartbeats 8000000
namespace Go.Am.E
open Go.Proofs Go.Ex Go.Rc
theorem dep_lt {id:Int} (h:dep id≠none):0≤id∧id<10000000:=by
 unfold dep at h;split at h
 ·exact absurd rfl h
 ·rename_i c;cases hd:dpt 5 id with
  |none=>rw[hd]at h;exact absurd rfl h
  |some d=>
   have:=dep_bd hd;omega
theorem frmT_dep {p:Pg} {bd:Int} {t:Th} (h:frmT p bd t=true):dep t.id≠none:=by
 unfold frmT at h;split at h
 ·cases h
 ·rename_i d hd;rw[hd];simp
theorem chd_lt {t:Th} {c:Int} (h:chd t=some c):t.id<10000000∧c<100000000:=by
 unfold chd at h;split at h
 ·rename_i d hd;have:=dep_lt (id:=t.id) (by rw[hd];simp);split at h
  ·cases h
  ·have:=Option.some.inj h;omega
 ·cases h
end Go.Am.E

set_option maxRecDepth 10000
set_option maxHeartbeats 16000000
namespace Go.Am.E
open Go.Proofs Go.Ex Go.Rc
attribute [local simp] same_d same_r same_p same_n same_c ztc7 zuc7 zsc7 pairK zyc7 chgOf slim sameAt meets updT
def exX (x:Stq) (t:Th) (k:Nat):Stq:=
 let w:=gt2 x.s.vs k
 let o:=x.i.o.toNat
 if x.i.op=13 then kdX x 7
 else if x.i.op=15∨x.i.op=16∨x.i.op=17 then mxX x k o w (gt2 x.s.lk o)
 else if x.i.op=18 then wtX x t k x.i.n.toNat o w (gt2 x.s.lk x.i.n.toNat) (gt2 x.s.sg o)
 else if x.i.op=19∨x.i.op=20 then sgX x k o w (gt2 x.s.sg o)
 else if x.i.op=21 then (match chd t with
  |none=>erX x 30
  |some c=>if (fndT x.s.th c).isSome=true∨newE x.p x.bd c x.i.o (reg t x.i.b)≠0 then erX x 30 else spX x k (posT c x.s.th) w (newT x.p x.bd c x.i.o (reg t x.i.b)))
 else if x.i.op=22 then (match fndT x.s.th (reg t x.i.b) with
  |none=>koX x 17 (reg t x.i.b)
  |some j=>setV (koX x 17 (reg t x.i.b)) k (jnV x.s.ms w (gt2 x.s.vs j) 0))
 else acX x t k o w x.ch.toNat
def exS (x:Stq) (t:Th):Nat:=
 if x.i.op=15∨x.i.op=16∨x.i.op=17 then (if mxB x x.i.o.toNat then 0 else 1)
 else if x.i.op=18∨x.i.op=19∨x.i.op=20 then 1
 else if x.i.op=21 then (match chd t with
  |none=>0
  |some c=>if (fndT x.s.th c).isSome=true∨newE x.p x.bd c x.i.o (reg t x.i.b)≠0 then 0 else 2)
 else 0
@[simp] abbrev xZ (n:Nat) (x:Stq) (m:Me):List TObj:=match n with
 |0=>xO x n0 true
 |1=>xJ x m
 |_=>xQ x
structure Xh (x:Stq) (t:Th) (k:Nat):Prop where
 hf:Fit x.p
 hk:x.ix=k
 ht:x.s.th[k]?=some t
 hid:t.id<10000000000000
 P:Pi x.p x.i
 vi:vis x.i.op=true
 hms:x.s.ms.length=x.p.vs.length
 hmo:x.s.mo.length=x.p.vs.length
 hml:x.p.vs.length<1000000
 hvl:x.s.vs.length=x.s.th.length
 hlk:x.s.lk.length=x.p.ms.length
 hsg:x.s.sg.length=x.p.cs.length
 hth:x.s.th.length<1000000
 lms:∀l∈x.s.ms,l.length<100000
 lmo:∀v,(gt2 x.s.ms v).length=(gt2 x.s.mo v).length
 vw:∀v∈x.s.vs,v.length=x.s.ms.length
 lw:∀v∈x.s.lk,v.length=x.s.ms.length
 sw:∀v∈x.s.sg,v.length=x.s.ms.length
 mw:∀l∈x.s.ms,∀m∈l,m.vw.length=x.s.ms.length
 me:Mb x.s.me
 ixl:x.p.ms.length<1000000∧x.p.cs.length<1000000
 jn:x.i.op=22→fndT x.s.th (reg t x.i.b)≠some k
 ac:acc x.i.op=true→∃c:Nat,x.ch=c∧((x.i.op=9∧1≤c∧c≤(gt2 x.s.ms x.i.o.toNat).length+1)∨((x.i.op=8∨x.i.op=10∨x.i.op=11∨x.i.op=12∨x.i.op=14)∧c≤(gt2 x.s.ms x.i.o.toNat).length))
theorem zmc7 {α:Type} {l:List (List α)} {x:Nat} (h:x<l.length):l[x]?=some (gt2 l x):=by
 rw[List.getElem?_eq_getElem h,zwd7 (List.getElem?_eq_getElem h)]
theorem Pi.ob {p:Pg} {i:In} (h:Pi p i) (h0:0≤nob p i.op):∃x:Nat,i.o=x∧(x:Int)<nob p i.op:=by
 obtain⟨n,hn⟩:=h.ii;have h1:=(zde7 hn).2.2.1 h0;exact⟨i.o.toNat,by omega,by omega⟩
theorem Pi.mu {p:Pg} {i:In} (h:Pi p i) (ho:i.op=18):∃x:Nat,i.n=x∧x<p.ms.length:=by
 obtain⟨n,hn⟩:=h.ii;have h1:=(zde7 hn).2.2.2 ho;exact⟨i.n.toNat,by omega,by omega⟩
theorem run44 (x:Stq) (t:Th) (k:Nat) (h:Xh x t k):K 44 [.ref ((0,0),0,0) 0] (xO x n0 true)=some (.tup [],xZ (exS x t) (exX x t k) x.s.me):=by
 have hk:=h.hk;have hkl:=(zca7 h.ht).2.2;have hv:=zmc7 (show k<x.s.vs.length by have:=h.hvl;omega);have hvw:=h.vw _ (List.mem_of_getElem? hv);have hixk:Ix k:=by have:=h.hth;unfold Ix;omega
 have hms:=h.hms;have hmo:=h.hmo;have hml:=h.hml;have hlms:∀l∈x.s.ms,l.length<1000000:=fun l hl=>by have:=h.lms l hl;omega
 have hwl:(gt2 x.s.vs k).length<1000000:=by omega
 have mx:∀o:Nat,o<x.p.ms.length→Mx x.s x.ix k o (gt2 x.s.vs k) (gt2 x.s.lk o):=fun o ho=>by
  have ho1:=zmc7 (show o<x.s.lk.length by have:=h.hlk;omega);have:=h.lw _ (List.mem_of_getElem? ho1);exact⟨hk,hv,ho1,by omega,by omega,hwl,hlms,⟨hixk,by have:=h.ixl.1;unfold Ix;omega⟩,h.me⟩
 have cn:∀o:Nat,o<x.p.cs.length→Cn x.s x.ix k o (gt2 x.s.vs k) (gt2 x.s.sg o):=fun o ho=>by
  have ho1:=zmc7 (show o<x.s.sg.length by have:=h.hsg;omega);have:=h.sw _ (List.mem_of_getElem? ho1);exact⟨hk,hv,ho1,by omega,by omega,hwl,hlms,⟨hixk,by have:=h.ixl.2;unfold Ix;omega⟩,h.me⟩
 have hvi:=h.vi;simp only[vis,decide_eq_true_eq]at hvi;by_cases o13:x.i.op=13
 ·have e1:exX x t k=kdX x 7:=by simp[exX,o13]
  have e2:exS x t=0:=by simp[exS,o13]
  rw[e1,e2];refine ce rfl ?_;simp[o13]
 by_cases oM:x.i.op=15∨x.i.op=16∨x.i.op=17
 ·obtain⟨o,ho,ho2⟩:=h.P.ob (by unfold nob;rw[if_neg (by omega),if_pos oM];omega);unfold nob at ho2;rw[if_neg (by omega),if_pos oM]at ho2;have e1:exX x t k=mxX x k o (gt2 x.s.vs k) (gt2 x.s.lk o):=by simp[exX,o13,oM,ho]
  have e2:exS x t=if mxB x o then 0 else 1:=by simp[exS,oM,ho]
  rw[e1,e2];have h92:=run92 x k o _ _ (mx o (by omega)) ho oM;have e3:(xZ (if mxB x o then 0 else 1) (mxX x k o (gt2 x.s.vs k) (gt2 x.s.lk o)) x.s.me)=(if mxB x o then xO (mxX x k o (gt2 x.s.vs k) (gt2 x.s.lk o)) n0 true else xJ (mxX x k o (gt2 x.s.vs k) (gt2 x.s.lk o)) x.s.me):=by cases mxB x o<;>rfl
  rw[e3];generalize mxX x k o (gt2 x.s.vs k) (gt2 x.s.lk o)=Z at *
  cases c:mxB x o<;>rw[c]at h92
  ·refine ce rfl ?_;rcases oM with oM|oM|oM<;>simp[xB,xS,xM,oM]at h92<;>simp[oM,h92]
  ·refine ce rfl ?_;rcases oM with oM|oM|oM<;>simp[xB,xS,xM,oM]at h92<;>simp[oM,h92]
 by_cases oW:x.i.op=18
 ·obtain⟨o,ho,ho2⟩:=h.P.ob (by unfold nob;rw[if_neg (by omega),if_neg (by omega),if_pos (by omega)];omega);unfold nob at ho2;rw[if_neg (by omega),if_neg (by omega),if_pos (by omega)]at ho2;obtain⟨n,hn,hn2⟩:=h.P.mu oW;have e1:exX x t k=wtX x t k n o (gt2 x.s.vs k) (gt2 x.s.lk n) (gt2 x.s.sg o):=by simp[exX,oW,ho,hn]
  have e2:exS x t=1:=by simp[exS,oW]
  rw[e1,e2];have h93:=run93 x t k n o _ _ _ (mx n hn2) (cn o (by omega)) h.ht ho hn;generalize wtX x t k n o (gt2 x.s.vs k) (gt2 x.s.lk n) (gt2 x.s.sg o)=Z at *
  refine ce rfl ?_;simp[xB,xS,xM,oW]at h93;simp[oW,h93]
 by_cases oS:x.i.op=19∨x.i.op=20
 ·obtain⟨o,ho,ho2⟩:=h.P.ob (by unfold nob;rw[if_neg (by omega),if_neg (by omega),if_pos (by omega)];omega);unfold nob at ho2;rw[if_neg (by omega),if_neg (by omega),if_pos (by omega)]at ho2;have e1:exX x t k=sgX x k o (gt2 x.s.vs k) (gt2 x.s.sg o):=by rcases oS with oS|oS<;>simp[exX,oS,ho]
  have e2:exS x t=1:=by rcases oS with oS|oS<;>simp[exS,oS]
  rw[e1,e2];have h94:=run94 x k o _ _ (cn o (by omega)) ho oS;generalize sgX x k o (gt2 x.s.vs k) (gt2 x.s.sg o)=Z at *
  refine ce rfl ?_;rcases oS with oS|oS<;>simp[xB,xS,xM,oS]at h94<;>simp[oS,h94]
 by_cases oP:x.i.op=21
 ·have hv1:=h.hvl;cases hc:chd t with
  |none=>
   have e1:exX x t k=erX x 30:=by simp[exX,oP,hc]
   have e2:exS x t=0:=by simp[exS,oP,hc]
   rw[e1,e2];have h95:=run95e x t k h.hf hk h.ht hixk h.hid h.hth h.P.reg oP (fun c h=>by rw[hc]at h;cases h) (fun c h=>by rw[hc]at h;cases h);refine ce rfl ?_;simp[xB,xS,xM,oP]at h95;simp[oP,h95]
  |some c=>
   have hcl:=(chd_lt hc).2;by_cases he:(fndT x.s.th c).isSome=true∨newE x.p x.bd c x.i.o (reg t x.i.b)≠0
   ·have e1:exX x t k=erX x 30:=by simp[exX,oP,hc];exact fun a b=>absurd he (by simp[a,b])
    have e2:exS x t=0:=by simp[exS,oP,hc];exact fun a=>by simpa[a]using he
    rw[e1,e2];have h95:=run95e x t k h.hf hk h.ht hixk h.hid h.hth h.P.reg oP (fun c' h=>by rw[hc]at h;obtain rfl:=Option.some.inj h;exact he) (fun c' h=>by rw[hc]at h;obtain rfl:=Option.some.inj h;omega);refine ce rfl ?_;simp[xB,xS,xM,oP]at h95;simp[oP,h95]
   ·have e1:exX x t k=spX x k (posT c x.s.th) (gt2 x.s.vs k) (newT x.p x.bd c x.i.o (reg t x.i.b)):=by simp only[exX,oP,hc,if_neg he];rfl
    have e2:exS x t=2:=by simp only[exS,oP,hc,if_neg he];rfl
    rw[e1,e2];have h95:=run95 x t k (gt2 x.s.vs k) c h.hf hk h.ht hv hwl hixk h.hid h.hth hv1 h.P.reg oP hc (by cases hh:fndT x.s.th c with|none=>rfl|some j=>exact absurd (.inl (by rw[hh];rfl)) he) (Classical.byContradiction fun hh=>he (.inr hh)) (by omega);generalize spX x k (posT c x.s.th) (gt2 x.s.vs k) (newT x.p x.bd c x.i.o (reg t x.i.b))=Z at *
    refine ce rfl ?_;simp[xB,xS,xM,oP]at h95;simp[oP,h95]
 obtain⟨t1,t2,t3⟩:=zca7 h.ht;by_cases oJ:x.i.op=22
 ·have r2:=h.P.reg.2.1;rw[oJ]at r2;obtain⟨j,hj,j1,j2,j3,j4⟩:=rg8 (r2 rfl);have e2:exS x t=0:=by simp[exS,oJ]
  rw[e2];have hre:reg t x.i.b=t.rg j:=by simp[reg,hj]
  have hrg:=(zca7 (zqb7 t j1)).1;have h36:=run36 x.s.th (t.rg j) (by have:=h.hth;omega);unfold fndP at h36;cases hc:fndT x.s.th (t.rg j) with
  |none=>
   rw[hc]at h36;have e1:exX x t k=koX x 17 (t.rg j):=by simp[exX,oJ,hre,hc]
   rw[e1];refine ce rfl ?_;simp at h36;simp[oJ,hk,hixk,h.ht,t1,t2,t3,h36,hj,j1,j2,j3,j4,zqb7,zjd7,reg,hrg]
  |some u=>
   rw[hc]at h36;obtain⟨tu,hu1,hu2⟩:=fndT_get hc;have hul:=(zca7 hu1).2.2;have huv:=zmc7 (show u<x.s.vs.length by have:=h.hvl;omega);have hne:u≠k:=fun e=>h.jn oJ (by rw[hre,hc,e])
   have huw:=h.vw _ (List.mem_of_getElem? huv);have e1:exX x t k=setV (koX x 17 (t.rg j)) k (jnV x.s.ms (gt2 x.s.vs k) (gt2 x.s.vs u) 0):=by simp[exX,oJ,hre,hc]
   rw[e1];have h96:=run96 .vs (koX x 17 (t.rg j)) k u (gt2 x.s.vs k) (gt2 x.s.vs u) ⟨hv,huv,hne⟩ hwl (by omega) (by show _≤x.s.ms.length;omega) hlms;rw[show (koX x 17 (t.rg j)).s.ms=x.s.ms from rfl]at h96;obtain⟨v1,v2,v3⟩:=zca7 hv;obtain⟨u1,u2,u3⟩:=zca7 huv;have r1:=(zca7 (zvb7 (0,7) x.vp hv)).1;have r3:=(zca7 (zvb7 (0,7) x.vp huv)).1;have hixu:Ix u:=by have:=h.hth;unfold Ix;omega
   generalize jnV x.s.ms (gt2 x.s.vs k) (gt2 x.s.vs u) 0=J at *
   generalize gt2 x.s.vs k=w at *
   generalize gt2 x.s.vs u=w' at *
   refine ce rfl ?_;simp at h36;simp[xB,xS,xM,aT,fV,fM,fL,fS,xE,setV,zrb7,oJ,hk,hj]at h96;simp[oJ,hk,hixk,hixu,h.ht,t1,t2,t3,h36,h96,hj,j1,j2,j3,j4,zqb7,zjd7,reg,hrg,hv,huv,v1,v2,v3,u1,u2,u3,r1,r3];simp[setV,zrb7,oJ,hk,hj]
 ·have hac:acc x.i.op=true:=by simp[acc];omega
  obtain⟨o,ho,ho2⟩:=h.P.va (acc_op hac);have hl:=zmc7 (show o<x.s.ms.length by omega);have hmo1:=zmc7 (show o<x.s.mo.length by omega)
  have e1:exX x t k=acX x t k o (gt2 x.s.vs k) x.ch.toNat:=by
   have:=acc_op hac;simp only[exX,if_neg o13,if_neg oM,if_neg oW,if_neg oS,if_neg oP,if_neg oJ,ho,Int.toNat_natCast]
  have e2:exS x t=0:=by
   simp only[exS,if_neg oM];rw[if_neg (by omega),if_neg oP]
  rw[e1,e2];obtain⟨c,hc,hcc⟩:=h.ac hac;rw[ho,Int.toNat_natCast]at hcc;have h97:=run97 x t k o c _ _ _ ⟨hk,ho,hv,by omega,hl,hmo1,h.lmo o,ho2,⟨hixk,by unfold Ix;omega⟩,hwl,by omega,h.lms,fun m hm=>by have:=h.mw _ (List.mem_of_getElem? hl) m hm;omega⟩ h.ht h.P.reg hc hcc;rw[hc,Int.toNat_natCast];generalize acX x t k o (gt2 x.s.vs k) c=Z at *
  refine ce rfl ?_;simp[xB,xS,xM]at h97;have n1:¬x.i.op=15:=fun e=>oM (.inl e)
  have n2:¬x.i.op=16:=fun e=>oM (.inr (.inl e))
  have n3:¬x.i.op=17:=fun e=>oM (.inr (.inr e))
  have n4:¬x.i.op=19:=fun e=>oS (.inl e)
  have n5:¬x.i.op=20:=fun e=>oS (.inr e)
  simp[o13,n1,n2,n3,n4,n5,oW,oP,oJ,h97]
end Go.Am.E

set_option maxRecDepth 10000
set_option maxHeartbeats 8000000
namespace Go.Am.E
open Go.Proofs Go.Ex Go.Rc
attribute [-simp] splice
attribute [local simp] zma7 MsD
theorem loop35_2 (s:Ra) (h:Sr s) (ho:s.mo.length=s.ms.length) (st:St) (hs:hd [5,115,116] [5] st=some ⟨[(5,.ref ((6,0),0,0) 0),(115,.dat (N s.ms.length)),(116,.dat (N 0))],[((6,0),rbx s)]⟩):
  Ev (zga7 (exec K l35_2) st) (bQ (fun q=>q.1=.exit 2∧hd [5] [] q.2=some ⟨[(5,.ref ((6,0),0,0) 0)],[((6,0),rbx s)]⟩) (RQ 6) (msR s)):=by
 have hms:=h.ms
 refine (zzb7 (live:=[5,115,116]) (drop:=[5]) s.ms (yF fun x l=>gdM s x&&alI (fun _ (m:Msg)=>gdV s m.vw) l 0) (by omega) (fun k=>⟨[(5,.ref ((6,0),0,0) 0),(115,.dat (N s.ms.length)),(116,.dat (N k))],[((6,0),rbx s)]⟩)
  (fun q=>q.1=.exit 2∧hd [5] [] q.2=some ⟨[(5,.ref ((6,0),0,0) 0)],[((6,0),rbx s)]⟩) (fun _ q=>RQ 6 q)
  (fun i l st g1 g2 g3 ix hs=>?_) (fun st hs=>?_) _ hs).mono ?_
 ·have hl:=List.mem_of_getElem? g1;have hg:=zwd7 g1;have hml:=h.ml l hl;have hi:i<s.ms.length:=by omega
  have hmo:=h.mo (s.mo[i]'(by omega)) (List.getElem_mem _);have h74:=run74 s i hi (by omega) (by rw[hg];omega) (by rw[zwd7 (List.getElem?_eq_getElem (show i<s.mo.length by omega))];omega);have hlp:=loop35_1 s h i l hl;cases c1:gdM s i<;>rw[c1]at h74
  ·simp[hs,g1,g2,g3,ix,h74,yF,c1]
  ·simp[hs,g1,g2,g3,ix,h74,yF,c1];generalize alI (fun _ (m:Msg)=>gdV s m.vw) l 0=B at *
   simp only[zaa7];refine (hlp _ (by simp)).mono ?_;rintro⟨y,s'⟩ hq;cases B with
   |false=>
    obtain⟨rfl,hq⟩:=hq;simp[hq]
   |true=>
    obtain⟨rfl,hq⟩:=hq;dsimp only at hq;simp[hq,ix]
 ·simp[hs]
 ·rw[scan_alI];intro q hq;unfold msR;generalize alI (fun x l=>gdM s x&&alI (fun _ (m:Msg)=>gdV s m.vw) l 0) s.ms 0=B at *
  cases B<;>exact hq
abbrev S35 (s:Ra) (k:Nat):Env:=[(5,.ref ((6,0),0,0) 0),(146,.dat (.sl [LsD s.vs,LsD s.lk,LsD s.sg])),(147,.dat (N 3)),(148,.dat (N k))]
theorem loop35_3 (s:Ra) (h:Sr s) (k:Nat) (l:List (List Int)) (hl:l.length<1000000) (hv:∀v∈l,v.length<1000000) (st:St) (hs:hd [5,146,147,148,152,153,154] [] st=some ⟨S35 s k++[(152,.dat (LsD l)),(153,.dat (N l.length)),(154,.dat (N 0))],[((6,0),rbx s)]⟩):
  Ev (zga7 (exec K l35_3) st) (bQ (fun q=>q.1=.exit 8∧hd [5,146,147,148] [] q.2=some ⟨S35 s k,[((6,0),rbx s)]⟩) (RQ 6) (alI (fun _ v=>gdV s v) l 0)):=by
 refine (zzb7 (live:=[5,146,147,148,152,153,154]) (drop:=[]) l (yF fun _ v=>gdV s v) (by omega) (fun j=>⟨S35 s k++[(152,.dat (LsD l)),(153,.dat (N l.length)),(154,.dat (N j))],[((6,0),rbx s)]⟩)
  (fun q=>q.1=.exit 8∧hd [5,146,147,148] [] q.2=some ⟨S35 s k,[((6,0),rbx s)]⟩) (fun _ q=>RQ 6 q)
  (fun i v st g1 g2 g3 ix hs=>?_) (fun st hs=>?_) _ hs).mono ?_
 ·have h75:=run75 s v (fun l hl=>by have:=h.ml l hl;omega) (by have:=h.ms;omega) (by have:=hv v (List.mem_of_getElem? g1);omega);cases c2:gdV s v<;>rw[c2]at h75<;>simp[hs,g1,g2,g3,ix,h75,yF,c2]
 ·simp[hs]
 ·rw[scan_alI];intro q hq;generalize alI (fun _ v=>gdV s v) l 0=B at *
  cases B<;>exact hq
theorem loop35_4 (s:Ra) (h:Sr s) (st:St) (hs:hd [5,146,147,148] [] st=some ⟨S35 s 0,[((6,0),rbx s)]⟩):
  Ev (zga7 (exec K l35_4) st) (bQ (fun q=>q.1=.exit 6∧∃os,hd [] [] q.2=some ⟨[],os⟩) (RQ 6) (vwR s)):=by
 refine (zzb7 (live:=[5,146,147,148]) (drop:=[]) [s.vs,s.lk,s.sg] (yF fun _ l=>alI (fun _ v=>gdV s v) l 0) (by simp) (fun k=>⟨S35 s k,[((6,0),rbx s)]⟩)
  (fun q=>q.1=.exit 6∧∃os,hd [] [] q.2=some ⟨[],os⟩) (fun _ q=>RQ 6 q)
  (fun i l st g1 g2 g3 ix hs=>?_) (fun st hs=>?_) _ hs).mono ?_
 ·have hl:l.length<1000000∧∀v∈l,v.length<1000000:=by
   have:=List.mem_of_getElem? g1;simp at this;rcases this with rfl|rfl|rfl
   ·exact⟨h.vs,h.vsl⟩
   ·exact⟨h.lk,h.lkl⟩
   ·exact⟨h.sg,h.sgl⟩
  have hlp:=loop35_3 s h i l hl.1 hl.2;have g3':(i:Int)<3:=by simpa using g3
  have hI:([LsD s.vs,LsD s.lk,LsD s.sg]:List Dat)[i]?=some (LsD l):=by
   have:([s.vs,s.lk,s.sg].map fun l=>LsD l)[i]?=some (LsD l):=by rw[List.getElem?_map,g1];rfl
   exact this
  have hi:i<3:=by omega
  obtain⟨i1,-,-⟩:=zca7 hI;simp[hs,g1,g3',ix,yF,hI,hi,i1];simp only[zaa7];refine (hlp _ (by simp)).mono ?_;rintro⟨y,s'⟩ hq;rcases Bool.eq_false_or_eq_true (alI (fun _ v=>gdV s v) l 0) with c|c<;>rw[c]at hq
  ·obtain⟨rfl,hq⟩:=hq;dsimp only at hq;simp[hq,ix,c]
  ·obtain⟨rfl,hq⟩:=hq;simp[hq,c]
 ·simp[hs]
 ·rw[scan_alI];intro q hq;unfold vwR;generalize alI (fun _ l=>alI (fun _ v=>gdV s v) l 0) [s.vs,s.lk,s.sg] 0=B at *
  cases B<;>exact hq
end Go.Am.E

set_option maxRecDepth 10000
set_option maxHeartbeats 8000000
namespace Go.Am.E
open Go.Proofs Go.Ex Go.Rc
attribute [-simp] splice
attribute [local simp] zma7 MsD
theorem loop35_0 (p:Pg) (hf:Fit p) (bd:Int) (hb:stdE p bd=0) (s:Ra) (h:Sr s) (st:St) (hs:hd [1,3,5,84,85,86] [3,5,84] st=some ⟨[(1,.dat (N bd)),(3,.ref ((4,0),0,0) 0),(5,.ref ((6,0),0,0) 0),(84,.dat (.sl (s.th.map TD))),(85,.dat (N s.th.length)),(86,.dat (N 0))],[((4,0),pbox p),((6,0),rbx s)]⟩):
  Ev (zga7 (exec K l35_0) st) (bQ (fun q=>q.1=.exit 0∧hd [5] [] q.2=some ⟨[(5,.ref ((6,0),0,0) 0)],[((4,0),pbox p),((6,0),rbx s)]⟩) (RQ 6) (s.th.all (okT p bd)&&srtT s.th)):=by
 have hth:=h.th
 refine (zzb7 (live:=[1,3,5,84,85,86]) (drop:=[3,5,84]) s.th (vsF p bd s.th) (by omega) (fun k=>⟨[(1,.dat (N bd)),(3,.ref ((4,0),0,0) 0),(5,.ref ((6,0),0,0) 0),(84,.dat (.sl (s.th.map TD))),(85,.dat (N s.th.length)),(86,.dat (N k))],[((4,0),pbox p),((6,0),rbx s)]⟩)
  (fun q=>q.1=.exit 0∧hd [5] [] q.2=some ⟨[(5,.ref ((6,0),0,0) 0)],[((4,0),pbox p),((6,0),rbx s)]⟩) (fun _ q=>RQ 6 q)
  (fun i y s' g1 g2 g3 ix hs'=>?_) (fun s' hs'=>?_) _ hs).mono ?_
 ·have h2:=run73 p hf bd y (h.tb y (List.mem_of_getElem? g1));rw[show vldT p bd y=okT p bd y by simp[vldT,hb]]at h2;cases c2:okT p bd y<;>rw[c2]at h2
  ·simp[hs',g1,g2,g3,ix,h2,vsF,c2]
  ·cases i with
   |zero=>
    have h4:0<s.th.length:=by omega
    simp at hs';simp[hs',g1,g2,h4,h2,vsF,c2,oldT]
   |succ j=>
    obtain⟨u,u1,u2⟩:=zad7 s.th (i:=j) (by omega);have w:IntKind.wrap .i64 (j:Int)=j:=wrap_i64 (by omega) (by omega);have wS:IntKind.wrap .i64 ((j:Int)+1+1)=j+1+1:=wrap_i64 (by omega) (by omega);have j1:(j:Int)+1<s.th.length:=by omega
    have j2:(j:Int)<s.th.length:=by omega
    have j3:(0:Int)<(j:Int)+1:=by omega
    simp at hs';by_cases c3:u.id<y.id
    ·have c3':¬y.id≤u.id:=by omega
     simp[hs',g1,g2,h2,vsF,c2,oldT,u1,u2,w,wS,j1,j2,j3,c3,c3']
    ·have c3':y.id≤u.id:=by omega
     simp[hs',g1,g2,h2,vsF,c2,oldT,u1,u2,w,wS,j1,j2,j3,c3,c3']
 ·simp[hs']
 ·intro q hq;rw[srt_scan0]at hq;generalize (s.th.all (okT p bd)&&srtT s.th)=B at *
  cases B<;>exact hq
theorem run35 (p:Pg) (hf:Fit p) (bd:Int) (hb:stdE p bd=0) (s:Ra) (h:Sr s):K 35 [.dat (PD p),.dat (N bd),.dat (RaD s)] []=some (.dat (.bool (vldR p bd s)),[]):=by
 have h1:=run72 p hf s.me h.me;have hl0:=loop35_0 p hf bd hb s h;have hl2:=loop35_2 s h;have hl4:=loop35_4 s h;refine ce rfl ?_;unfold vldR;cases c1:valM p s.me<;>rw[c1]at h1
 ·simp[h1]
 by_cases d1:s.ms.length=p.vs.length;rotate_left
 ·have d1':¬(s.ms.length:Int)=p.vs.length:=by omega
  simp[h1,shR,d1,d1']
 by_cases d2:s.mo.length=p.vs.length;rotate_left
 ·have d2':¬(s.mo.length:Int)=p.vs.length:=by omega
  simp[h1,shR,d1,d2,d2']
 by_cases d3:s.vs.length=s.th.length;rotate_left
 ·have d3':¬(s.vs.length:Int)=s.th.length:=by omega
  simp[h1,shR,d1,d2,d3,d3']
 by_cases d4:s.lk.length=p.ms.length;rotate_left
 ·have d4':¬(s.lk.length:Int)=p.ms.length:=by omega
  simp[h1,shR,d1,d2,d3,d4,d4']
 by_cases d5:s.sg.length=p.cs.length;rotate_left
 ·have d5':¬(s.sg.length:Int)=p.cs.length:=by omega
  simp[h1,shR,d1,d2,d3,d4,d5,d5']
 by_cases d6:s.ev.length≤512;rotate_left
 ·have d6':(512:Int)<s.ev.length:=by omega
  simp[h1,shR,d1,d2,d3,d4,d5,d6,d6']
 have d6':¬(512:Int)<s.ev.length:=by omega
 by_cases d7:s.rf.length=s.ev.length;rotate_left
 ·have d7':¬(s.rf.length:Int)=s.ev.length:=by omega
  simp[h1,shR,d1,d2,d3,d4,d5,d6,d6',d7,d7']
 have hl2:=hl2 (by omega);have hsh:shR p s=true:=by simp[shR,d1,d2,d3,d4,d5,d6,d7]
 rw[hsh];simp[h1,d1,d2,d3,d4,d5,d6,d6',d7];simp only[zaa7];refine (hl0 _ (by simp[d1,d2,d3,d4,d5,d6,d6',d7])).mono ?_;generalize (s.th.all (okT p bd)&&srtT s.th)=B;rintro⟨y,s'⟩ hq;cases B with
 |false=>
  obtain⟨rfl,hq⟩:=hq;simp[hq]
 |true=>
  obtain⟨rfl,hq⟩:=hq;dsimp only at hq;simp[hq];simp only[zaa7];refine (hl2 _ (by simp[d1])).mono ?_;generalize msR s=B;rintro⟨y,s'⟩ hq;cases B with
  |false=>
   obtain⟨rfl,hq⟩:=hq;simp[hq]
  |true=>
   obtain⟨rfl,hq⟩:=hq;dsimp only at hq;simp[hq];simp only[zaa7];refine (hl4 _ (by simp)).mono ?_;generalize vwR s=B;rintro⟨y,s'⟩ hq;cases B with
   |false=>
    obtain⟨rfl,hq⟩:=hq;simp[hq]
   |true=>
    obtain⟨rfl,os,hq⟩:=hq;dsimp only at hq;simp[hq]
end Go.Am.E
