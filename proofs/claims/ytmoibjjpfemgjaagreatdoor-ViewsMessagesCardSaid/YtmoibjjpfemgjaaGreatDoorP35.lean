/- Parts of the proofs of the statement, joined and made short: V43 V44 V45 V46 V47 V48 V49 V50 ZLay ZL1. -/
import Derived.Test.YtmoibjjpfemgjaaGreatDoorP34
import Derived.Test.YtmoibjjpfemgjaaGreatDoorP20
import Derived.Test.YtmoibjjpfemgjaaGreatDoorP29
import Derived.Test.YtmoibjjpfemgjaaGreatDoorP13
import Derived.Test.YtmoibjjpfemgjaaGreatDoorP26
import Derived.Shelf.SlGeneric
import Derived.Shelf.SortM.Plain
import Derived.Shelf.SortM.SortNone
import Derived.Ground.SlgmProg
set_option linter.unusedVariables false
set_option linter.unusedSimpArgs false
set_option linter.unusedSectionVars false
set_option maxHeartbeats 8000000
namespace Go.Am.E
open Go.Proofs Go.Ex Go.Rc
theorem gdM_at {s:Ra} {x:Nat} (h:gdM s x=true) {j:Nat} {m:Msg} (hm:(gt2 s.ms x)[j]?=some m):(0≤m.ev∧m.ev<s.ev.length)∧(gt2 s.mo x)[j]?=some m.ev∧((gt2 s.mo x).take j).contains m.ev=false∧
  ∃e,s.ev[m.ev.toNat]?=some e∧(e.kind=2∨e.kind=5)∧e.obj=x∧e.wr=m.val∧okV m.val=true:=by
 simp only[gdM,Bool.and_eq_true,decide_eq_true_eq]at h;have h1:=alI_all.1 h.2 j m hm;simp only[Bool.and_eq_true,decide_eq_true_eq,Nat.zero_add,Bool.not_eq_true']at h1;obtain⟨⟨⟨h1,h2⟩,h3⟩,h4⟩:=h1;refine⟨h1,h2,h3,?_⟩;cases he:s.ev[m.ev.toNat]? with
 |none=>rw[he]at h4;cases h4
 |some e=>
  rw[he]at h4;simp only[Bool.and_eq_true,Bool.or_eq_true,decide_eq_true_eq]at h4;exact⟨e,rfl,h4.1.1.1,h4.1.1.2,h4.1.2,h4.2⟩
theorem Vl.e0 {p:Pg} {bd:Int} {s:Ra} (h:Vl p bd s):Ev0 s.ms:=fun d m hm=>by
 by_cases hd:d<s.ms.length
 ·exact (gdM_ev (h.gm d hd) m hm).1
 ·rw[zud7 hd]at hm;cases hm
theorem Vl.fr {p:Pg} {bd:Int} {s:Ra} (h:Vl p bd s) (d:Nat):∀b∈gt2 s.ms d,b.ev<s.ev.length:=fun m hm=>by
 by_cases hd:d<s.ms.length
 ·exact (gdM_ev (h.gm d hd) m hm).2
 ·rw[zud7 hd]at hm;cases hm
theorem Vl.ds {p:Pg} {bd:Int} {s:Ra} (h:Vl p bd s) (d:Nat) (i j:Nat) (a b:Msg) (ha:(gt2 s.ms d)[i]?=some a) (hb:(gt2 s.ms d)[j]?=some b) (hij:i<j):a.ev≠b.ev:=by
 intro he;by_cases hd:d<s.ms.length
 ·have h1:=(gdM_at (h.gm d hd) ha).2.1;have h2:=(gdM_at (h.gm d hd) hb).2.2.1;rw[he]at h1;have:b.ev∈(gt2 s.mo d).take j:=List.mem_of_getElem? (i:=i) (by rw[List.getElem?_take,if_pos hij];exact h1);rw[←List.contains_iff_mem,h2]at this;cases this
 ·rw[zud7 hd]at ha;cases ha
theorem Vl.afd {p:Pg} {bd:Int} {s:Ra} (h:Vl p bd s) {o:Nat} (ho:o<s.ms.length) {W:List Int} (hW:Gd s.ms W):Afd s o W:=
 ⟨ho,h.e0,h.ds o,hW,fun m hm=>gdV_gd (h.mv _ (List.mem_of_getElem? (zmc7 ho)) m hm)⟩
theorem Vl.gdk {p:Pg} {bd:Int} {s:Ra} (h:Vl p bd s) {k:Nat} (hk:k<s.th.length):Gd s.ms (gt2 s.vs k):=
 gdV_gd (h.gv _ (List.mem_of_getElem? (zmc7 (by rw[h.hvl];exact hk))))
theorem reg_ok {p:Pg} {bd:Int} {t:Th} {b:Int} (h:frmT p bd t=true) (hb:0≤b∧b<8):okV (reg t b)=true:=by
 unfold frmT at h;split at h
 ·cases h
 ·simp only[Bool.and_eq_true,List.all_eq_true]at h;obtain⟨j,hj,j1,-⟩:=rg8 hb;have h1:=h.1.1.1.1.1.1.2 j (List.mem_range.2 j1);rw[hj];simpa[reg]using h1
theorem StR.pi {p:Pg} {bd:Int} {s:Ra} {ag ch:Int} {k:Nat} {t:Th} {i:In} (S:StR p bd s ag ch k t i) (hb:Tb t):Pi p i∧vis i.op=true∧t.ss=1∧frmT p bd t=true:=by
 obtain⟨a,b,c,d,-⟩:=pen_pi (zpd7 S.b).1 hb S.pn;have hok:=S.v.ok t (List.mem_of_getElem? S.th);unfold okT at hok;rw[Bool.and_eq_true]at hok;exact⟨a,b,c,hok.1⟩
theorem exX_x0 (p:Pg) (bd:Int) (s:Ra) (ag ch:Int) (k:Nat) (t:Th) (i:In):exX (x0R p bd s ag ch k t i) t k=
  if i.op=13 then kdX (x0R p bd s ag ch k t i) 7
  else if i.op=15∨i.op=16∨i.op=17 then mxX (x0R p bd s ag ch k t i) k i.o.toNat (gt2 s.vs k) (gt2 s.lk i.o.toNat)
  else if i.op=18 then wtX (x0R p bd s ag ch k t i) t k i.n.toNat i.o.toNat (gt2 s.vs k) (gt2 s.lk i.n.toNat) (gt2 s.sg i.o.toNat)
  else if i.op=19∨i.op=20 then sgX (x0R p bd s ag ch k t i) k i.o.toNat (gt2 s.vs k) (gt2 s.sg i.o.toNat)
  else if i.op=21 then (match chd t with
   |none=>erX (x0R p bd s ag ch k t i) 30
   |some c=>if (fndT s.th c).isSome=true∨newE p bd c i.o (reg t i.b)≠0 then erX (x0R p bd s ag ch k t i) 30 else spX (x0R p bd s ag ch k t i) k (posT c s.th) (gt2 s.vs k) (newT p bd c i.o (reg t i.b)))
  else if i.op=22 then (match fndT s.th (reg t i.b) with
   |none=>koX (x0R p bd s ag ch k t i) 17 (reg t i.b)
   |some j=>setV (koX (x0R p bd s ag ch k t i) 17 (reg t i.b)) k (jnV s.ms (gt2 s.vs k) (gt2 s.vs j) 0))
  else acX (x0R p bd s ag ch k t i) t k i.o.toNat (gt2 s.vs k) ch.toNat:=rfl
theorem stp_eff {p:Pg} {bd:Int} {s:Ra} {ag ch:Int} {k:Nat} {t:Th} {i:In} (S:StR p bd s ag ch k t i) (hb:Tb t) (h21:i.op≠21):∃w',Eff p s k (gt2 s.vs k) (exX (x0R p bd s ag ch k t i) t k) w':=by
 obtain⟨P,hvi,hss,hfr⟩:=S.pi hb;have hkl:=(zca7 S.th).2.2;have gW:=S.v.gdk hkl;have h0:=S.v.e0;simp only[vis,decide_eq_true_eq]at hvi;have gl:∀o:Nat,o<p.ms.length→Gd s.ms (gt2 s.lk o):=fun o ho=>gdV_gd (S.v.gl _ (List.mem_of_getElem? (zmc7 (by rw[S.v.hlk];exact ho))))
 have gs:∀o:Nat,o<p.cs.length→Gd s.ms (gt2 s.sg o):=fun o ho=>gdV_gd (S.v.gs _ (List.mem_of_getElem? (zmc7 (by rw[S.v.hsg];exact ho))))
 have oM:i.op=15∨i.op=16∨i.op=17→i.o.toNat<p.ms.length:=fun ho=>by
  obtain⟨o,h1,h2⟩:=P.ob (by unfold nob;rw[if_neg (by omega),if_pos ho];omega);unfold nob at h2;rw[if_neg (by omega),if_pos ho]at h2;omega
 have oC:i.op=18∨i.op=19∨i.op=20→i.o.toNat<p.cs.length:=fun ho=>by
  obtain⟨o,h1,h2⟩:=P.ob (by unfold nob;rw[if_neg (by omega),if_neg (by omega),if_pos ho];omega);unfold nob at h2;rw[if_neg (by omega),if_neg (by omega),if_pos ho]at h2;omega
 by_cases o13:i.op=13
 ·have e:exX (x0R p bd s ag ch k t i) t k=kdX (x0R p bd s ag ch k t i) 7:=by rw[exX_x0,if_pos o13]
  rw[e];exact⟨gt2 s.vs k,Eff.quiet q7 rfl rfl (set_at (zmc7 (show k<s.vs.length by rw[S.v.hvl];exact hkl))).symm rfl (Vle.rfl' _ _) rfl rfl rfl⟩
 by_cases hM:i.op=15∨i.op=16∨i.op=17
 ·have e:exX (x0R p bd s ag ch k t i) t k=mxX (x0R p bd s ag ch k t i) k i.o.toNat (gt2 s.vs k) (gt2 s.lk i.o.toNat):=by
   rw[exX_x0,if_neg o13,if_pos hM]
  rw[e];exact⟨_,eff_mx i.o.toNat (x:=x0R p bd s ag ch k t i) rfl rfl h0 gW (gl _ (oM hM))⟩
 by_cases hW:i.op=18
 ·obtain⟨n,hn,hn2⟩:=P.mu hW
  have e:exX (x0R p bd s ag ch k t i) t k=wtX (x0R p bd s ag ch k t i) t k i.n.toNat i.o.toNat (gt2 s.vs k) (gt2 s.lk i.n.toNat) (gt2 s.sg i.o.toNat):=by
   rw[exX_x0,if_neg o13,if_neg hM,if_pos hW]
  rw[e];exact eff_wt t i.n.toNat i.o.toNat (x:=x0R p bd s ag ch k t i) rfl rfl h0 gW (gl _ (by omega)) (gs _ (oC (.inl hW)))
 by_cases hS:i.op=19∨i.op=20
 ·have e:exX (x0R p bd s ag ch k t i) t k=sgX (x0R p bd s ag ch k t i) k i.o.toNat (gt2 s.vs k) (gt2 s.sg i.o.toNat):=by
   rw[exX_x0,if_neg o13,if_neg hM,if_neg hW,if_pos hS]
  rw[e];exact⟨_,eff_sg i.o.toNat (x:=x0R p bd s ag ch k t i) rfl rfl h0 gW (gs _ (oC (by omega)))⟩
 by_cases hJ:i.op=22
 ·cases hf:fndT s.th (reg t i.b) with
  |none=>
   have e:exX (x0R p bd s ag ch k t i) t k=koX (x0R p bd s ag ch k t i) 17 (reg t i.b):=by
    rw[exX_x0,if_neg o13,if_neg hM,if_neg hW,if_neg hS,if_neg h21,if_pos hJ,hf]
   rw[e];exact⟨gt2 s.vs k,Eff.quiet q17 rfl rfl (set_at (zmc7 (show k<s.vs.length by rw[S.v.hvl];exact hkl))).symm rfl (Vle.rfl' _ _) rfl rfl rfl⟩
  |some j=>
   have e:exX (x0R p bd s ag ch k t i) t k=setV (koX (x0R p bd s ag ch k t i) 17 (reg t i.b)) k (jnV s.ms (gt2 s.vs k) (gt2 s.vs j) 0):=by
    rw[exX_x0,if_neg o13,if_neg hM,if_neg hW,if_neg hS,if_neg h21,if_pos hJ,hf]
   rw[e];obtain⟨u,hu,-⟩:=fndT_get hf;have gj:=S.v.gdk (zca7 hu).2.2;exact⟨_,Eff.quiet q17 rfl rfl rfl (zcb7 ..) (jn_le h0 gW gj) rfl rfl rfl⟩
 ·have ha:acc i.op=true:=by simp[acc];omega
  obtain⟨o,ho,ho2⟩:=P.va (acc_op ha);have hom:o<s.ms.length:=by rw[S.v.hms];exact ho2
  have hpos:=fun y (hy:(gt2 s.vs k)[o]?=some y)=>gW.pos o y hy
  have hgo:(gt2 s.vs k)[o]?=some ((gt2 s.vs k)[o]'(by rw[gW.len];exact hom)):=List.getElem?_eq_getElem _
  have hp0:0≤posM (gt2 s.ms i.o.toNat) (((gt2 s.vs k)[i.o.toNat]?).getD 0):=by
   rw[ho,Int.toNat_natCast,hgo];exact hpos _ hgo
  obtain⟨c,hc,hP,hcc⟩:=chs_ac S.pn ha S.hc hp0
  have e:exX (x0R p bd s ag ch k t i) t k=acX (x0R p bd s ag ch k t i) t k o (gt2 s.vs k) c:=by
   rw[exX_x0,if_neg o13,if_neg hM,if_neg hW,if_neg hS,if_neg h21,if_neg hJ,ho,hc,Int.toNat_natCast,Int.toNat_natCast]
  rw[e];rw[ho,Int.toNat_natCast]at hP hp0;have hrg:=P.reg;refine eff_ac (x:=x0R p bd s ag ch k t i) rfl rfl ho (S.v.afd hom gW) (S.v.fr o) ha hP hp0 (fun y hy=>?_) (fun h=>reg_ok hfr (hrg.2.1 ?_)) (fun h=>reg_ok hfr (hrg.2.2 ?_))
  ·have hy:(gt2 s.vs k)[o]?=some y:=hy;rw[hy,Option.getD_some];exact (pos_pl (h0 o) (hpos y hy)).symm
  ·have h:i.op=9∨i.op=10:=h;rcases h with h|h<;>rw[h]<;>rfl
  ·have h:i.op=12:=h;rw[h];rfl
end Go.Am.E

set_option maxHeartbeats 8000000
namespace Go.Am.E
open Go.Proofs Go.Ex Go.Rc
def thI (i:In) (m j:Nat):Nat:=if i.op=21 then (if j<m then j else j+1) else j
structure Tvs (p:Pg) (s:Ra) (k:Nat) (W:List Int) (s':Ra) (w':List Int) (f:Nat→Nat):Prop where
 vt:s'.vs.length=s'.th.length
 fn:∀j a,s.th[j]?=some a→fndT s'.th a.id=some (f j)
 row:∀j w,s.vs[j]?=some w→j≠k→s'.vs[f j]?=some w
 own:s'.vs[f k]?=some w'
theorem stp_sp {p:Pg} {bd:Int} {s:Ra} {ag ch:Int} {k:Nat} {t:Th} {i:In} (S:StR p bd s ag ch k t i) (h21:i.op=21):∃c,chd t=some c∧fndT s.th c=none∧exX (x0R p bd s ag ch k t i) t k=spX (x0R p bd s ag ch k t i) k (posT c s.th) (gt2 s.vs k) (newT p bd c i.o (reg t i.b)):=by
 have her:=S.er;rw[exX_x0,if_neg (by omega),if_neg (by omega),if_neg (by omega),if_neg (by omega),if_pos h21]at her ⊢;cases hc:chd t with
 |none=>rw[hc]at her;exact absurd her (by show (30:Int)≠0;decide)
 |some c=>
  rw[hc]at her;dsimp only at her ⊢;split at her
  ·exact absurd her (by show (30:Int)≠0;decide)
  ·rename_i hn;refine⟨c,rfl,?_,by rw[if_neg hn]⟩;cases hf:fndT s.th c with
   |none=>rfl
   |some j=>exact absurd (.inl (by rw[hf];rfl)) hn
end Go.Am.E

set_option maxRecDepth 10000
set_option maxHeartbeats 16000000
namespace Go.Am.E
open Go.Proofs Go.Ex Go.Rc
end Go.Am.E

set_option maxRecDepth 10000
set_option maxHeartbeats 16000000
namespace Go.Am.E
open Go.Proofs Go.Ex Go.Rc
attribute [local simp] MsD
def Mgo (s:Ra) (x i:Nat) (m:Msg):Prop:=(gt2 s.mo x)[i]?=some m.ev∧∃(j:Nat) (e:Evt),m.ev=j∧s.ev[j]?=some e∧e.wr=m.val∧e.obj=x∧wrE e=true
def Ego (p:Pg) (s:Ra) (e:Evt) (r:Int):Prop:=if rdE' e then ∃o:Nat,e.obj=o∧o<p.vs.length∧((r = -1∧e.rd=((p.vs[o]?).map (·.2)).getD 0)∨∃(j:Nat) (u:Evt),r=j∧s.ev[j]?=some u∧e.rd=u.wr) else r = -2
def smL (l:List (List Msg)):Nat:=(l.map List.length).sum
def cnW (l:List Evt):Nat:=(l.filter fun e=>wrE e).length
structure Mes (p:Pg) (s:Ra):Prop where
 ms:s.ms.length=p.vs.length
 mo:s.mo.length=p.vs.length
 rf:s.rf.length=s.ev.length
 mg:∀(x i:Nat) (m:Msg),(gt2 s.ms x)[i]?=some m→Mgo s x i m
 eg:∀(i:Nat) (e:Evt) (r:Int),s.ev[i]?=some e→s.rf[i]?=some r→Ego p s e r
 cn:smL s.ms=cnW s.ev
abbrev G7 (s:Ra):TObj:=.plain (.box [.dat (.sl (s.ev.map ED)),.dat (Ns s.rf),.dat (LsD s.mo)])
abbrev E7 (w:Int):Env:=[(1,.ref ((2,0),0,0) 0),(5,.ref ((6,0),0,0) 0),(6,.dat (N w))]
abbrev E7m (s:Ra) (k:Nat):Env:=[(69,.dat (MLD s.ms)),(70,.dat (N s.ms.length)),(71,.dat (N k))]
abbrev X7 (p:Pg) (bd:Int) (l:List (Int×Int)) (s:Ra):zsa7:=[((2,0),wbx p bd l),((6,0),G7 s)]
theorem loop7_0 (p:Pg) (bd:Int) (L:List (Int×Int)) (s:Ra) (M:Mes p s) (w:Int) (x:Nat) (hx:x<s.ms.length) (hl:(gt2 s.ms x).length<1000000) (hxl:s.ms.length<1000000) (hel:s.ev.length<1000000) (st:St)
  (hs:hd [1,5,6,7,69,70,71,80,81,82] [1,5,69] st=some ⟨E7 w++[(7,.dat (N x))]++E7m s x++[(80,.dat (.sl ((gt2 s.ms x).map MsD))),(81,.dat (N (gt2 s.ms x).length)),(82,.dat (N 0))],X7 p bd L s⟩):
  Ev (zga7 (exec K l7_0) st) (fun q=>q.1=.exit 2∧hd [1,5,6,69,70,71] [] q.2=some ⟨E7 w++E7m s x,X7 p bd L s⟩):=by
 refine (zeb7 (live:=[1,5,6,7,69,70,71,80,81,82]) (drop:=[1,5,69]) (gt2 s.ms x) (by omega) (fun k=>⟨E7 w++[(7,.dat (N x))]++E7m s x++[(80,.dat (.sl ((gt2 s.ms x).map MsD))),(81,.dat (N (gt2 s.ms x).length)),(82,.dat (N k))],X7 p bd L s⟩)
  (fun _ q=>q.1=.exit 2∧hd [1,5,6,69,70,71] [] q.2=some ⟨E7 w++E7m s x,X7 p bd L s⟩)
  (fun i m s' g1 g2 g3 ix hs=>?_) (fun s' hs=>?_) _ hs)
 ·obtain⟨h1,j,e,h2,h3,h4,h5,h6⟩:=M.mg x i m g1;have h24:=run24 e;rw[h6]at h24;have xx:Ix x:=by unfold Ix;omega
  have hmx:=zmc7 (show x<s.mo.length by rw[M.mo,←M.ms];exact hx);obtain⟨x1,x2,x3⟩:=zca7 hmx;obtain⟨o1,o2,o3⟩:=zca7 h1;obtain⟨e1,e2,e3⟩:=zca7 h3;have n1:¬((gt2 s.mo x).length:Int)≤i:=by omega
  have n2:¬(s.ev.length:Int)≤j:=by omega
  generalize gt2 s.mo x=mx at *
  obtain⟨mev,mval,mvw⟩:=m;obtain⟨eag,eidx,ekind,eobj,emux,eent,eord,erd,ewr⟩:=e;dsimp only at h1 h2 h4 h5;subst h2 h4 h5;simp[hs,g1,g2,g3,ix,xx,hmx,x1,x2,x3,h1,o1,o2,o3,h3,e1,e2,e3,n1,n2,h24]
 ·simp[hs]
theorem smL_s {l:List (List Msg)} {k:Nat} {r:List Msg} (h:l[k]?=some r):smL (l.take (k+1))=smL (l.take k)+r.length:=by
 rw[zpe7 h];simp[smL]
theorem loop7_1 (p:Pg) (bd:Int) (L:List (Int×Int)) (s:Ra) (M:Mes p s) (hl:∀l∈s.ms,l.length<1000) (hxl:s.ms.length<1000) (hel:s.ev.length<1000000) (st:St)
  (hs:hd [1,5,6,69,70,71] [1,5,69] st=some ⟨E7 0++E7m s 0,X7 p bd L s⟩):
  Ev (zga7 (exec K l7_1) st) (fun q=>q.1=.exit 0∧hd [1,5,6] [] q.2=some ⟨E7 (smL s.ms),X7 p bd L s⟩):=by
 have hb:∀k,smL (s.ms.take k)≤1000*k:=by
  intro k
  induction k with
  |zero=>simp[smL]
  |succ k ih=>
   by_cases hk:k<s.ms.length
   ·rw[smL_s (List.getElem?_eq_getElem hk)];have:=hl _ (List.getElem_mem hk);omega
   ·rw[List.take_of_length_le (by omega)]at ih ⊢;omega
 refine (zeb7 (live:=[1,5,6,69,70,71]) (drop:=[1,5,69]) s.ms (by omega) (fun k=>⟨E7 (smL (s.ms.take k))++E7m s k,X7 p bd L s⟩)
  (fun _ q=>q.1=.exit 0∧hd [1,5,6] [] q.2=some ⟨E7 (smL s.ms),X7 p bd L s⟩)
  (fun x r s' g1 g2 g3 ix hs=>?_) (fun s' hs=>?_) _ (by simpa[smL]using hs))
 ·have hx:=(zca7 g1).2.2;have hg:=zwd7 g1;have hrl:=hl _ (List.mem_of_getElem? g1);have hlp:=loop7_0 p bd L s M (smL (s.ms.take x)+r.length) x hx (by rw[hg];omega) (by omega) hel;have e:=smL_s g1;have h1:=hb x;rw[hg]at hlp;have w:IntKind.wrap .i64 ((smL (s.ms.take x):Int)+r.length)=smL (s.ms.take x)+r.length:=wrap_i64 (by omega) (by omega);simp[hs,g1,g2,g3,ix,w];simp only[zaa7];refine (hlp _ (by simp)).mono ?_;rintro⟨y,s'⟩ ⟨rfl,hq⟩;dsimp only at hq;simp[hq,ix,e]
 ·simp[hs]
theorem cnW_s {l:List Evt} {k:Nat} {r:Evt} (h:l[k]?=some r):cnW (l.take (k+1))=cnW (l.take k)+if wrE r then 1 else 0:=by
 rw[zpe7 h];unfold cnW;rw[List.filter_append,List.length_append];cases h:wrE r<;>simp[h]
theorem loop7_2 (p:Pg) (bd:Int) (L:List (Int×Int)) (s:Ra) (M:Mes p s) (n:Nat) (hn:n<100000000) (hp:p.vs.length<1000000) (hel:s.ev.length<1000000) (st:St)
  (hs:hd [1,5,6,157,158,159] [1,5,157] st=some ⟨E7 n++[(157,.dat (.sl (s.ev.map ED))),(158,.dat (N s.ev.length)),(159,.dat (N 0))],X7 p bd L s⟩):
  Ev (zga7 (exec K l7_2) st) (fun q=>q.1=.exit 4∧∃os,hd [6] [] q.2=some ⟨[(6,.dat (N ((n:Int)-cnW s.ev)))],os⟩):=by
 have hb:∀k,cnW (s.ev.take k)≤s.ev.length:=fun k=>Nat.le_trans (List.length_filter_le _ _) (by simp;omega)
 refine (zeb7 (live:=[1,5,6,157,158,159]) (drop:=[1,5,157]) s.ev (by omega) (fun k=>⟨E7 ((n:Int)-cnW (s.ev.take k))++[(157,.dat (.sl (s.ev.map ED))),(158,.dat (N s.ev.length)),(159,.dat (N k))],X7 p bd L s⟩)
  (fun _ q=>q.1=.exit 4∧∃os,hd [6] [] q.2=some ⟨[(6,.dat (N ((n:Int)-cnW s.ev)))],os⟩)
  (fun i e s' g1 g2 g3 ix hs=>?_) (fun s' hs=>?_) _ (by simpa[cnW]using hs))
 ·have hi:=(zca7 g1).2.2;have hr:s.rf[i]?=some (s.rf[i]'(by rw[M.rf];exact hi)):=List.getElem?_eq_getElem _;obtain⟨r1,r2,r3⟩:=zca7 hr;have G:=M.eg i e _ g1 hr;generalize s.rf[i]'(by rw[M.rf];exact hi)=r at *
  have h24:=run24 e;have h25:=run25 e;have hc:=cnW_s g1;have hb1:=hb i;have wk:∀m:Int,-1000000000<m→m<1000000000→IntKind.wrap .i64 m=m:=fun m h1 h2=>wrap_i64 (by omega) (by omega)
  have w1:=wk ((n:Int)-cnW (s.ev.take i)-1) (by omega) (by omega);unfold Ego at G
  have e7:∀b:Bool,wrE e=b→(n:Int)-cnW (s.ev.take (i+1))=if b then (n:Int)-cnW (s.ev.take i)-1 else (n:Int)-cnW (s.ev.take i):=fun b hb=>by
   rw[hb]at hc;cases b
   ·simp at hc ⊢;omega
   ·simp at hc ⊢;omega
  generalize hW:wrE e=W at *
  have e7:=e7 _ rfl;cases hR:rdE' e<;>rw[hR]at h25 G
  ·simp only[Bool.false_eq_true,if_false]at G;subst G;obtain⟨eag,eidx,ekind,eobj,emux,eent,eord,erd,ewr⟩:=e;cases W
   ·simp only[Bool.false_eq_true,if_false]at e7;simp[hs,g1,g2,g3,ix,hr,r1,r2,r3,h24,h25,e7]
   ·simp only[if_true]at e7;simp[hs,g1,g2,g3,ix,hr,r1,r2,r3,h24,h25,e7,w1]
  ·simp only[if_true]at G;obtain⟨o,o1,o2,G⟩:=G;have ho:=List.getElem?_eq_getElem o2;obtain⟨q1,q2,q3⟩:=zca7 ho;rw[ho]at G;simp only[Option.map_some,Option.getD_some]at G;generalize p.vs[o]=v at *
   obtain⟨vn,vi⟩:=v;have n1:¬(p.vs.length:Int)≤o:=by omega
   have ox:Ix o:=by unfold Ix;omega
   obtain⟨eag,eidx,ekind,eobj,emux,eent,eord,erd,ewr⟩:=e;dsimp only at o1 G;subst o1;rcases G with⟨rfl,rfl⟩|⟨j,u,rfl,hu,hv⟩
   ·have n2:¬(s.ev.length:Int) ≤ -1:=by omega
    cases W
    ·simp only[Bool.false_eq_true,if_false]at e7;simp[hs,g1,g2,g3,ix,hr,r1,r2,r3,h24,h25,e7,ho,q1,q2,q3,n1,n2,ox,VD]
    ·simp only[if_true]at e7;simp[hs,g1,g2,g3,ix,hr,r1,r2,r3,h24,h25,e7,w1,ho,q1,q2,q3,n1,n2,ox,VD]
   ·obtain⟨u1,u2,u3⟩:=zca7 hu;have n2:¬(s.ev.length:Int)≤j:=by omega
    have jx:Ix j:=by unfold Ix;omega
    obtain⟨uag,uidx,ukind,uobj,umux,uent,uord,urd,uwr⟩:=u;dsimp only at hv;subst hv;cases W
    ·simp only[Bool.false_eq_true,if_false]at e7;simp[hs,g1,g2,g3,ix,hr,r1,r2,r3,h24,h25,e7,ho,q1,q2,q3,n1,n2,ox,VD,hu,u1,u2,u3,jx]
    ·simp only[if_true]at e7;simp[hs,g1,g2,g3,ix,hr,r1,r2,r3,h24,h25,e7,w1,ho,q1,q2,q3,n1,n2,ox,VD,hu,u1,u2,u3,jx]
 ·simp[hs]
end Go.Am.E

set_option maxRecDepth 10000
set_option maxHeartbeats 16000000
namespace Go.Am.E
open Go.Proofs Go.Ex Go.Rc
theorem runR_ne {p:Pg} {bd:Int}:∀{l:List (Int×Int)} {s:Ra} {e:Int},runR p bd s l=.inl e→e≠0
 |[],s,e,h=>by cases h
 |k::r,s,e,h=>by
  simp only[runR]at h;cases hs:stpR p bd s k.1 k.2 with
  |inl e'=>rw[hs]at h;cases h;exact stpR_ne hs
  |inr x=>rw[hs]at h;exact runR_ne h
theorem ranR_ne {p:Pg} {bd:Int} {l:List (Int×Int)} {e:Int} (h:ranR p bd l=.inl e):e≠0:=by
 unfold ranR at h;split at h
 ·cases h;assumption
 ·split at h
  ·cases h;decide
  ·exact runR_ne h
theorem run7' (p:Pg) (bd:Int) (l:List (Int×Int)) (hM:∀s,l.length≤14→ranR p bd l=.inr s→Mes p s∧s.ev.length=l.length∧Jr l.length s∧p.vs.length≤8):K 7 [.dat (.agg (WDl p bd l))] []=some (.dat (.bool true),[]):=by
 obtain⟨b,h9,hb⟩:=run9 p bd l;have h11:=run11;cases b
 ·refine ce rfl ?_;simp at h9;simp[h9,h11]
 ·obtain⟨hf,hl⟩:=hb rfl;have h27:=run27 p hf bd l (by omega);simp at h9;cases hR:ranR p bd l with
  |inl e=>
   have hne:=ranR_ne hR;rw[hR]at h27;simp[oU]at h27;refine ce rfl ?_;simp[h9,h11,h27,hne]
  |inr s=>
   obtain⟨M,h1,J,h8⟩:=hM s hl hR;rw[hR]at h27;simp[oU]at h27;have m1:=M.ms;have m2:=M.mo;have m3:=M.rf;have i1:(s.ev.length:Int)=l.length:=by omega
   have i2:(s.rf.length:Int)=l.length:=by omega
   have i3:(s.ms.length:Int)=p.vs.length:=by omega
   have i4:(s.mo.length:Int)=p.vs.length:=by omega
   have hlp:=loop7_1 p bd l s M (fun r hr=>by have:=J.ml r hr;omega) (by omega) (by omega)
   have hlp2:=loop7_2 p bd l s M (smL s.ms) (by
    rw[M.cn];have:cnW s.ev≤s.ev.length:=List.length_filter_le _ _;omega) (by omega) (by omega)
   have hz:(smL s.ms:Int)-cnW s.ev=0:=by rw[M.cn];omega
   rw[hz]at hlp2;refine ce rfl ?_;simp[h9,h11,h27,i1,i2,i3,i4];simp only[zaa7];refine (hlp _ (by simp[i3,i1])).mono ?_;rintro⟨y,s'⟩ ⟨rfl,hq⟩;dsimp only at hq;simp[hq];simp only[zaa7];refine (hlp2 _ (by simp)).mono ?_;rintro⟨y,s'⟩ ⟨rfl,os,hq⟩;dsimp only at hq;simp[hq,h11]
end Go.Am.E

set_option maxHeartbeats 8000000
namespace Go.Am.E
open Go.Proofs Go.Ex Go.Rc
def Evs (E:Evt) (r:Int) (e:Evt):Prop:=e.ag=E.ag∧e.idx=E.idx∧e.mux=E.mux∧e.ent=E.ent∧e.ord=r∧(e.kind=2→e.rd=E.rd)∧(e.kind≠2→e.kind≠5→e.wr=E.wr)
theorem evs_rd (x:Stq) (d:Int) (hd:d≠2) (k v:Nat) (W:List Int) (c:Nat) (hc:c≤(gt2 x.s.ms v).length) (o r:Int):Evs x.e r (rdX (kdX (obX x o r) d) k v W c).e:=by
 unfold rdX;cases c with
 |zero=>exact⟨rfl,rfl,rfl,rfl,rfl,fun h=>absurd h hd,fun _ _=>rfl⟩
 |succ c=>
  obtain⟨m,hm⟩:∃m,(gt2 x.s.ms v)[c]?=some m:=⟨_,List.getElem?_eq_getElem (show c<(gt2 x.s.ms v).length by omega)⟩;dsimp only;rw[hm];exact⟨rfl,rfl,rfl,rfl,rfl,fun h=>absurd h hd,fun _ _=>rfl⟩
theorem evs_up (x:Stq) (k v:Nat) (W:List Int) (c:Nat) (hc:c≤(gt2 x.s.ms v).length) (o r u:Int):Evs x.e r (upX (obX x o r) k v W c u).e:=by
 unfold upX;cases c with
 |zero=>exact⟨rfl,rfl,rfl,rfl,rfl,fun h=>absurd h (show (5:Int)≠2 by decide),fun _ h=>absurd rfl h⟩
 |succ c=>
  obtain⟨m,hm⟩:∃m,(gt2 x.s.ms v)[c]?=some m:=⟨_,List.getElem?_eq_getElem (show c<(gt2 x.s.ms v).length by omega)⟩;dsimp only;rw[hm];exact⟨rfl,rfl,rfl,rfl,rfl,fun h=>absurd h (show (5:Int)≠2 by decide),fun _ h=>absurd rfl h⟩
theorem evs_ac (x:Stq) (t:Th) (k v:Nat) (W:List Int) (c:Nat) (hc:x.i.op≠9→c≤(gt2 x.s.ms v).length):Evs x.e x.i.r (acX x t k v W c).e:=by
 unfold acX;dsimp only;split
 ·rename_i h;have hc:=hc (by omega);split
  ·exact evs_rd x 8 (by decide) k v W c hc _ _
  ·exact evs_rd x 1 (by decide) k v W c hc _ _
 split
 ·exact⟨rfl,rfl,rfl,rfl,rfl,fun _=>rfl,fun h=>absurd rfl h⟩
 rename_i h9;have hc:=hc h9;split
 ·exact evs_up x k v W c hc _ _ _
 split
 ·exact evs_up x k v W c hc _ _ _
 split
 ·exact evs_up x k v W c hc _ _ _
 ·exact evs_rd x 6 (by decide) k v W c hc _ _
theorem vaB_ok (n:Int):vaB n=okV n:=by
 have h:=okV_iff (n:=n);unfold vaB;unfold isVal at h;cases c:okV n
 ·rw[c]at h;simp only[Bool.and_eq_false_iff,decide_eq_false_iff_not];have:¬(-2147483648≤n∧n≤2147483647):=fun hh=>by have:=h.2 (by omega);cases this
  omega
 ·have h:=h.1 c;simp only[Bool.and_eq_true,decide_eq_true_eq];omega
theorem vaE_of {E:Evt} {r:Int} {e:Evt} (h:Evs E r e) (hE:E.ag≥0∧E.idx≥0∧E.mux = -1∧E.ent = -1∧E.rd=0∧E.wr=0) (hr:0≤r∧r≤2) (hk:e.kind=1∨e.kind=2∨e.kind=5∨e.kind=6∨e.kind=8) (ho:0≤e.obj∧e.obj<8) (hrd:rdsK e.kind=true→okV e.rd=true) (hwr:e.kind=2∨e.kind=5→okV e.wr=true):vaE e=true:=by
 obtain⟨h1,h2,h3,h4,h5,h6,h7⟩:=h;obtain⟨e1,e2,e3,e4,e5,e6⟩:=hE;obtain⟨ag,idx,kind,obj,mux,ent,ord,rd,wr⟩:=e;dsimp only at *
 have ok0:okV 0=true:=by decide
 have hrd':vaB rd=true:=by
  rw[vaB_ok];rcases hk with rfl|rfl|rfl|rfl|rfl
  ·exact hrd rfl
  ·rw[h6 rfl,e5];exact ok0
  ·exact hrd rfl
  ·exact hrd rfl
  ·exact hrd rfl
 have hwr':vaB wr=true:=by
  rw[vaB_ok];rcases hk with rfl|rfl|rfl|rfl|rfl
  ·rw[h7 (by decide) (by decide),e6];exact ok0
  ·exact hwr (.inl rfl)
  ·exact hwr (.inr rfl)
  ·rw[h7 (by decide) (by decide),e6];exact ok0
  ·rw[h7 (by decide) (by decide),e6];exact ok0
 have hob:wiB obj 8=true:=by simp[wiB,ho]
 have hag:¬ag<0:=by omega
 have hix:¬idx<0:=by omega
 have hrn:¬(ord<0∨2<ord):=by omega
 have hmx:mux = -1:=by omega
 have hen:ent = -1:=by omega
 subst hmx hen;rcases hk with rfl|rfl|rfl|rfl|rfl
 ·have:=h7 (by decide) (by decide);obtain rfl:wr=0:=by omega
  simp[vaE,obE,rsE,enE,ordK,wroK,rdsK,hrd',hwr',hob,hag,hix,hrn]
 ·obtain rfl:rd=0:=by have:=h6 rfl;omega
  simp[vaE,obE,rsE,enE,ordK,wroK,rdsK,hrd',hwr',hob,hag,hix,hrn]
 ·simp[vaE,obE,rsE,enE,ordK,wroK,rdsK,hrd',hwr',hob,hag,hix,hrn]
 ·have:=h7 (by decide) (by decide);obtain rfl:wr=0:=by omega
  simp[vaE,obE,rsE,enE,ordK,wroK,rdsK,hrd',hwr',hob,hag,hix,hrn]
 ·have:=h7 (by decide) (by decide);obtain rfl:wr=0:=by omega
  simp[vaE,obE,rsE,enE,ordK,wroK,rdsK,hrd',hwr',hob,hag,hix,hrn]
end Go.Am.E

set_option maxHeartbeats 8000000
namespace Go.Am.E
open Go.Proofs Go.Ex Go.Rc
theorem qk_mx (x:Stq) (k i:Nat) (v o:List Int):Qk (mxX x k i v o).e.kind:=by
 unfold mxX tkX
 repeat' split
 all_goals first|exact q9|exact q10|exact q11
theorem qk_wt (x:Stq) (t:Th) (k i c:Nat) (v o u:List Int):Qk (wtX x t k i c v o u).e.kind:=by
 unfold wtX tkX
 repeat' split
 all_goals first|exact q12|exact q13|exact q9
theorem qk_sg (x:Stq) (k c:Nat) (v u:List Int):Qk (sgX x k c v u).e.kind:=by
 unfold sgX;split
 ·exact q14
 ·exact q15
theorem stp_evs {p:Pg} {bd:Int} {s:Ra} {ag ch:Int} {k:Nat} {t:Th} {i:In} (S:StR p bd s ag ch k t i) (hb:Tb t) (hk:¬Qk (exX (x0R p bd s ag ch k t i) t k).e.kind):acc i.op=true∧Evs (x0R p bd s ag ch k t i).e i.r (exX (x0R p bd s ag ch k t i) t k).e:=by
 obtain⟨P,hvi,hss,hfr⟩:=S.pi hb;simp only[vis,decide_eq_true_eq]at hvi;cases ha:acc i.op
 ·exfalso;apply hk;rw[exX_x0];split
  ·exact q7
  split
  ·exact qk_mx ..
  split
  ·exact qk_wt ..
  split
  ·exact qk_sg ..
  split
  ·split
   ·exact q0
   ·split
    ·exact q0
    ·exact q16
  split
  ·split
   ·exact q17
   ·exact q17
  ·exfalso;simp[acc]at ha;omega
 ·refine⟨rfl,?_⟩;have hop:=acc_op ha;obtain⟨o,ho,ho2⟩:=P.va hop;have hom:o<s.ms.length:=by rw[S.v.hms];exact ho2
  have gW:=S.v.gdk (zca7 S.th).2.2
  have hp0:0≤posM (gt2 s.ms i.o.toNat) (((gt2 s.vs k)[i.o.toNat]?).getD 0):=by
   have hgo:(gt2 s.vs k)[o]?=some ((gt2 s.vs k)[o]'(by rw[gW.len];exact hom)):=List.getElem?_eq_getElem _;rw[ho,Int.toNat_natCast,hgo];exact gW.pos o _ hgo
  obtain⟨c,hc,-,hcc⟩:=chs_ac S.pn ha S.hc hp0
  have e:exX (x0R p bd s ag ch k t i) t k=acX (x0R p bd s ag ch k t i) t k i.o.toNat (gt2 s.vs k) c:=by
   rw[exX_x0,if_neg (by omega),if_neg (by omega),if_neg (by omega),if_neg (by omega),if_neg (by omega),if_neg (by omega),hc,Int.toNat_natCast]
  rw[e]
  exact evs_ac (x0R p bd s ag ch k t i) t k i.o.toNat (gt2 s.vs k) c (fun h9=>by
   have h9:i.op≠9:=h9;rcases hcc with h|h
   ·exact absurd h.1 h9
   ·exact h.2)
structure Iv (p:Pg) (s:Ra):Prop where
 rl:s.rf.length=s.ev.length
 eg:∀(i:Nat) (e:Evt) (r:Int),s.ev[i]?=some e→s.rf[i]?=some r→Ego p s e r
 wv:∀e∈s.ev,e.kind=2∨e.kind=5→wrE e=true
 cn:smL s.ms=cnW s.ev
theorem iv_st0 (p:Pg) (bd:Int):Iv p (st0 p bd):=by
 refine⟨rfl,fun i e r h=>?_,fun e h=>?_,?_⟩
 ·have h:([]:List Evt)[i]?=some e:=h;simp at h
 ·have h:e∈([]:List Evt):=h;cases h
 ·show smL (List.replicate p.vs.length [])=0
  induction p.vs.length with
  |zero=>rfl
  |succ n ih=>first|(simp[smL,List.replicate_succ];done)|(simp[smL,List.replicate_succ];exact ih)
theorem ego_app {p:Pg} {s s':Ra} {e:Evt} {r:Int} (h:Ego p s e r) {u:Evt} (hu:s'.ev=s.ev++[u]):Ego p s' e r:=by
 unfold Ego at h ⊢;split at h
 ·rename_i hr;rw[if_pos hr];obtain⟨o,h1,h2,h3⟩:=h;refine⟨o,h1,h2,?_⟩;rcases h3 with h3|⟨j,v,h3,h4,h5⟩
  ·exact .inl h3
  ·exact .inr ⟨j,v,h3,by rw[hu,List.getElem?_append_left (zca7 h4).2.2];exact h4,h5⟩
 ·rename_i hr;rw[if_neg hr];exact h
theorem sum_set (l:List (List Msg)) (o:Nat) (r:List Msg) (h:o<l.length):smL (l.set o r)+(gt2 l o).length=smL l+r.length:=by
 induction l generalizing o with
 |nil=>simp at h
 |cons a b ih=>
  cases o with
  |zero=>
   simp[smL,gt2];omega
  |succ o=>
   have:=ih o (by simpa using h);simp[smL,gt2]at this ⊢;omega
theorem ini_ok {p:Pg} (hp:chP p=0) {o:Nat} (ho:o<p.vs.length):okV (((p.vs[o]?).map (·.2)).getD 0)=true:=by
 have h1:=fst0_all hp (iniE p) (by simp);unfold iniE at h1;split at h1
 ·rename_i h;rw[List.all_eq_true]at h;have:=h (p.vs[o]) (List.getElem_mem ho);rw[List.getElem?_eq_getElem ho];simpa using this
 ·cases h1
end Go.Am.E

set_option maxHeartbeats 8000000
namespace Go.Am.E
open Go.Proofs Go.Ex Go.Rc
def Wrs (s s':Ra) (e:Evt):Prop:=(s'.ms=s.ms∧s'.mo=s.mo∧e.kind≠2∧e.kind≠5)∨∃(o pl:Nat) (vw:List Int),e.obj=o∧o<s.ms.length∧(e.kind=2∨e.kind=5)∧s'.ms=s.ms.set o (ins (gt2 s.ms o) pl ⟨s.ev.length,e.wr,vw⟩)∧s'.mo=s.mo.set o (ins (gt2 s.mo o) pl s.ev.length)∧pl≤(gt2 s.ms o).length
theorem ins_at {α:Type} (a:α):∀(l:List α) (p i:Nat) (x:α),p≤l.length→(ins l p a)[i]?=some x→(i=p∧x=a)∨∃j,l[j]?=some x∧i=if j<p then j else j+1
 |l,0,i,x,_,h=>by
  cases i with
  |zero=>simp[ins]at h;exact .inl ⟨rfl,h.symm⟩
  |succ i=>simp[ins]at h;exact .inr ⟨i,h,by simp⟩
 |[],p+1,i,x,h,_=>by simp at h
 |b::r,p+1,i,x,hp,h=>by
  have h:(b::ins r p a)[i]?=some x:=h;cases i with
  |zero=>simp at h;exact .inr ⟨0,by simpa using h,by simp⟩
  |succ i=>
   rcases ins_at a r p i x (by simpa using hp) (by simpa using h) with⟨h1,h2⟩|⟨j,h1,h2⟩
   ·exact .inl ⟨by omega,h2⟩
   ·refine .inr ⟨j+1,by simpa using h1,?_⟩;by_cases hj:j<p
    ·rw[if_pos hj]at h2;rw[if_pos (by omega)];omega
    ·rw[if_neg hj]at h2;rw[if_neg (by omega)];omega
theorem cnW_app (l:List Evt) (e:Evt):cnW (l++[e])=cnW l+if wrE e then 1 else 0:=by
 unfold cnW;rw[List.filter_append,List.length_append];cases h:wrE e<;>simp[h]
theorem iv_go {p:Pg} {bd:Int} {s s':Ra} {e:Evt} {r:Int} (V:Vl p bd s) (I:Iv p s) (hev:s'.ev=s.ev++[e]) (hrf:s'.rf=s.rf++[r]) (W:Wrs s s' e) (hE:Ego p s' e r) (hD:e.kind=2∨e.kind=5→wrE e=true) (h4:e.kind≠4):
  Iv p s'∧∀(x i:Nat) (m:Msg),(gt2 s'.ms x)[i]?=some m→Mgo s' x i m:=by
 have old:∀(x i:Nat) (m:Msg),(gt2 s.ms x)[i]?=some m→(gt2 s.mo x)[i]?=some m.ev∧∃(j:Nat) (u:Evt),m.ev=j∧s'.ev[j]?=some u∧u.wr=m.val∧u.obj=x∧wrE u=true:=by
  intro x i m hm;have hx:x<s.ms.length:=Nat.lt_of_not_le fun h=>by rw[zud7 (by omega)]at hm;simp at hm
  obtain⟨h1,h2,-,u,h4,h5,h6,h7,-⟩:=gdM_at (V.gm x hx) hm;refine⟨h2,m.ev.toNat,u,by omega,?_,h7,h6,I.wv u (List.mem_of_getElem? h4) h5⟩;rw[hev,List.getElem?_append_left (zca7 h4).2.2];exact h4
 refine⟨⟨by rw[hev,hrf,List.length_append,List.length_append,I.rl];rfl,fun i u q hu hq=>?_,fun u hu hk=>?_,?_⟩,fun x i m hm=>?_⟩
 ·by_cases hi:i<s.ev.length
  ·rw[hev,List.getElem?_append_left hi]at hu;rw[hrf,List.getElem?_append_left (by rw[I.rl];exact hi)]at hq;exact ego_app (I.eg i u q hu hq) hev
  ·have hi':i=s.ev.length:=by
    have:=(zca7 hu).2.2;rw[hev,List.length_append]at this;simp at this;omega
   subst hi';rw[hev,List.getElem?_append_right (Nat.le_refl _),Nat.sub_self]at hu;rw[hrf,List.getElem?_append_right (by rw[I.rl];exact Nat.le_refl _),I.rl,Nat.sub_self]at hq;cases hu;cases hq;exact hE
 ·rw[hev]at hu;rcases List.mem_append.1 hu with hu|hu
  ·exact I.wv u hu hk
  ·rcases List.mem_singleton.1 hu with rfl;exact hD hk
 ·rw[hev,cnW_app,←I.cn];rcases W with⟨h1,h2,h3,h5⟩|⟨o,pl,vw,h1,h2,h3,h5,h6,h7⟩
  ·have:wrE e=false:=by simp[wrE,h3,h5,h4]
   rw[h1,this];rfl
  ·have h8:=sum_set s.ms o (ins (gt2 s.ms o) pl ⟨s.ev.length,e.wr,vw⟩) h2;rw[zte7 _ _ _ h7]at h8;rw[h5,hD h3];simp only[if_true];omega
 ·rcases W with⟨h1,h2,-⟩|⟨o,pl,vw,h1,h2,h3,h5,h6,h7⟩
  ·rw[h1]at hm;obtain⟨a,b⟩:=old x i m hm;exact⟨by rw[h2];exact a,b⟩
  ·by_cases hx:x=o
   ·subst hx;rw[h5,gt2_set h2]at hm;have hom:x<s.mo.length:=by rw[V.hmo,←V.hms];exact h2
    have hlen:=gdM_len (V.gm x h2);rcases ins_at _ _ _ _ _ h7 hm with⟨rfl,rfl⟩|⟨j,hj,hi⟩
    ·refine⟨by rw[h6,gt2_set hom];exact insL_get _ _ _ (by omega),s.ev.length,e,rfl,by rw[hev,List.getElem?_append_right (Nat.le_refl _),Nat.sub_self];rfl,rfl,h1,hD h3⟩
    ·obtain⟨a,b⟩:=old x j m hj;refine⟨?_,b⟩;rw[h6,gt2_set hom,hi,ins_old _ _ _ _ (by omega)];exact a
   ·rw[h5,gt2_set_ne hx]at hm;obtain⟨a,b⟩:=old x i m hm;exact⟨by rw[h6,gt2_set_ne hx];exact a,b⟩
structure Stf (p:Pg) (bd:Int) (s s':Ra) (e:Evt) (r:Int):Prop where
 V:Vl p bd s
 ev:s'.ev=s.ev++[e]
 rf:s'.rf=s.rf++[r]
 W:Wrs s s' e
 E:Ego p s' e r
 D:e.kind=2∨e.kind=5→wrE e=true
 n4:e.kind≠4
theorem stf_ok {p:Pg} {bd:Int} {n:Nat} {s:Ra} {ag ch:Int} {s':Ra} {e:Evt} (hj:Jr n s) (hn:n≤900) (h:stpR p bd s ag ch=.inr (s',e)):∃r,Stf p bd s s' e r:=by
 obtain⟨k,t,i,S,hr⟩:=stpR_inr h;obtain⟨rfl,rfl⟩:=Prod.mk.inj hr;have hkl:=(zca7 S.th).2.2;have htb:=(hj.sw' hn).sr.tb t (List.mem_of_getElem? S.th);obtain⟨i1,i2,-⟩:=exX_inv (x0R p bd s ag ch k t i) t k rfl hkl;have hp:=(zpd7 S.b).1;by_cases h21:i.op=21
 ·obtain⟨c,h1,h2,h3⟩:=stp_sp S h21;rw[h3]at i1 i2 ⊢;refine⟨-2,S.v,by show _++[_]=_;rw[i1];rfl,by show _++[_]=_;rw[i2];rfl,.inl ⟨rfl,rfl,(show (16:Int)≠2 by decide),(show (16:Int)≠5 by decide)⟩,?_,fun h=>?_,(show (16:Int)≠4 by decide)⟩
  ·unfold Ego;rw[if_neg (by show ¬(vaE _&&rdsK 16)=true;rw[show rdsK 16=false from rfl];simp)]
  ·have h:(16:Int)=2∨(16:Int)=5:=h;omega
 ·obtain⟨w',E⟩:=stp_eff S htb h21;have hev:=stp_evs S htb;obtain⟨P,hvi,hss,hfr⟩:=S.pi htb;generalize exX (x0R p bd s ag ch k t i) t k=z at *
  have hva:¬Qk z.e.kind→∀o:Nat,z.e.obj=o→o<s.ms.length→vaE z.e=true:=fun hq o ho hol=>by
   obtain⟨ha,hE⟩:=hev hq;obtain⟨m,hm⟩:=P.ii;have hci:=(zde7 hm).1
   have hr:0≤i.r∧i.r≤2:=by
    unfold chI at hci;have hop:=acc_op ha;have hu:uk i.op 6=true:=by rcases hop with h|h|h|h|h|h<;>rw[h]<;>rfl
    rw[hu]at hci;by_cases hr:0≤i.r∧i.r≤2
    ·exact hr
    ·rw[decide_eq_false hr]at hci;split at hci
     ·cases hci
     split at hci
     ·cases hci
     split at hci
     ·cases hci
     simp at hci
   have hid:0≤ag:=by
    have:=(dep_lt (frmT_dep hfr)).1;have:=S.id;omega
   have hst:0≤t.st:=by
    unfold frmT at hfr;split at hfr
    ·cases hfr
    ·simp only[Bool.and_eq_true,decide_eq_true_eq]at hfr;exact hfr.1.1.1.1.1.2.1
   have hlim:=chP_lim hp;have hvs:=S.v.hms;refine vaE_of hE ⟨hid,hst,rfl,rfl,rfl,rfl⟩ hr ?_ ⟨by omega,by omega⟩ (fun h=>?_) (fun h=>?_)
   ·by_cases hd:rdsK z.e.kind=true
    ·simp only[rdsK,Bool.or_eq_true,decide_eq_true_eq]at hd;omega
    ·rcases E.wr with⟨-,-,h2,h5⟩|⟨o,pl,vw,R⟩
     ·exact absurd ⟨by simpa using hd,h2,h5,E.nk⟩ hq
     ·have:=R.hkd;omega
   ·obtain⟨o',o1,o2,o3,-⟩:=E.rd h;rcases o3 with⟨-,h⟩|⟨m,hm,-,h⟩
    ·rw[h];exact ini_ok hp (by omega)
    ·rw[h];obtain⟨j,hj⟩:=List.mem_iff_getElem?.1 hm;obtain⟨-,-,-,u,-,-,-,-,h9⟩:=gdM_at (S.v.gm o' o2) hj;exact h9
   ·rcases E.wr with⟨-,-,h2,h5⟩|⟨o,pl,vw,R⟩
    ·omega
    ·exact R.hok
  refine⟨z.rf,S.v,by show _++[_]=_;rw[i1];rfl,by show _++[_]=_;rw[i2];rfl,?_,?_,fun h=>?_,E.nk⟩
  ·rcases E.wr with h|⟨o,pl,vw,R⟩
   ·exact .inl h
   ·exact .inr ⟨o,pl,vw,R.hob,R.hlt,R.hkd,R.hms,R.hmo,R.hpl⟩
  ·unfold Ego;by_cases hd:rdsK z.e.kind=true
   ·obtain⟨o,o1,o2,o3,-⟩:=E.rd hd;have hv:=hva (fun q=>by rw[q.1]at hd;cases hd) o o1 o2;rw[if_pos (by simp[rdE',hv,hd])];have hvs:=S.v.hms;refine⟨o,o1,by omega,?_⟩;rcases o3 with h|⟨m,hm,h1,h2⟩
    ·exact .inl h
    ·obtain⟨j,hj⟩:=List.mem_iff_getElem?.1 hm;obtain⟨h3,-,-,u,h4,-,-,h5,-⟩:=gdM_at (S.v.gm o o2) hj;refine .inr ⟨m.ev.toNat,u,by omega,?_,by omega⟩
     show (z.s.ev++[z.e])[m.ev.toNat]?=some u
     have i1:z.s.ev=s.ev:=i1;rw[i1,List.getElem?_append_left (zca7 h4).2.2];exact h4
   ·rw[if_neg (by simp[rdE',hd])];exact E.nr (by simpa using hd)
  ·have hv:vaE z.e=true:=by
    rcases E.wr with⟨-,-,h2,h5⟩|⟨o,pl,vw,R⟩
    ·omega
    ·exact hva (fun q=>by rcases h with h|h;exact q.2.1 h;exact q.2.2.1 h) o R.hob R.hlt
   rcases h with h|h<;>simp[wrE,hv,h]
theorem runR_mes {p:Pg} {bd:Int}:∀{l:List (Int×Int)} {s s':Ra} {n:Nat},runR p bd s l=.inr s'→Jr n s→n+l.length≤900→Iv p s→(∀(x i:Nat) (m:Msg),(gt2 s.ms x)[i]?=some m→Mgo s x i m)→s.ms.length=p.vs.length→s.mo.length=p.vs.length→
  Iv p s'∧(∀(x i:Nat) (m:Msg),(gt2 s'.ms x)[i]?=some m→Mgo s' x i m)∧s'.ms.length=p.vs.length∧s'.mo.length=p.vs.length∧s'.ev.length=s.ev.length+l.length∧Jr (n+l.length) s'
 |[],s,s',n,h,hj,hn,I,M,h1,h2=>by
  cases h;exact⟨I,M,h1,h2,rfl,hj⟩
 |k::r,s,s',n,h,hj,hn,I,M,h1,h2=>by
  simp only[runR]at h;simp only[List.length_cons]at hn;cases hs:stpR p bd s k.1 k.2 with
  |inl e=>rw[hs]at h;cases h
  |inr x=>
   obtain⟨s1,e⟩:=x;rw[hs]at h;dsimp only at h;obtain⟨q,F⟩:=stf_ok hj (by omega) hs;obtain⟨I1,M1⟩:=iv_go F.V I F.ev F.rf F.W F.E F.D F.n4
   have hl:s1.ms.length=p.vs.length∧s1.mo.length=p.vs.length:=by
    rcases F.W with⟨a,b,-⟩|⟨o,pl,vw,-,-,-,a,b,-⟩
    ·rw[a,b];exact⟨h1,h2⟩
    ·rw[a,b,List.length_set,List.length_set];exact⟨h1,h2⟩
   obtain⟨a1,a2,a3,a4,a5,a6⟩:=runR_mes h (hj.stp (by omega) hs) (by omega) I1 M1 hl.1 hl.2;refine⟨a1,a2,a3,a4,?_,by rw[show n+(k::r).length=n+1+r.length by simp;omega];exact a6⟩;rw[a5,F.ev,List.length_append];simp only[List.length_cons,List.length_nil];omega
theorem run7 (p:Pg) (bd:Int) (l:List (Int×Int)):K 7 [.dat (.agg (WDl p bd l))] []=some (.dat (.bool true),[]):=by
 refine run7' p bd l fun s hl h=>?_
 unfold ranR at h;split at h
 ·cases h
 rename_i h0;split at h
 ·cases h
 have h0:stdE p bd=0:=by simpa using h0
 have e1:(st0 p bd).ms.length=p.vs.length:=List.length_replicate;have e2:(st0 p bd).mo.length=p.vs.length:=List.length_replicate
 obtain⟨a1,a2,a3,a4,a5,a6⟩:=runR_mes h (Jr.st0 h0) (by omega) (iv_st0 p bd) (fun x i m hm=>by
  have:gt2 (st0 p bd).ms x=[]:=by
   by_cases hx:x<(st0 p bd).ms.length
   ·have hg:=zmc7 hx;exact List.eq_of_mem_replicate (List.mem_of_getElem? hg)
   ·exact zud7 hx
  rw[this]at hm;simp at hm) e1 e2
 have hlim:=chP_lim (zpd7 h0).1;exact⟨⟨a3,a4,a1.rl,a2,a1.eg,a1.cn⟩,by rw[a5];show 0+l.length=l.length;omega,by rw[show l.length=0+l.length by omega];exact a6,by omega⟩
end Go.Am.E

namespace Go.Proofs
open Go.Shelf
def TryzL.sort_ren:Go.Shelf.Ren:=⟨fun|5=>236|8=>260|7=>259|19=>278|20=>279|10=>269|11=>270|12=>271|13=>272|14=>273|15=>274|16=>275|17=>276|18=>277|30=>282|31=>283|32=>284|33=>285|34=>286|35=>287|40=>288|n=>n,fun|23=>32|25=>3|3=>3|32=>192|22=>32|0=>0|44=>170|46=>231|4=>4|36=>250|35=>249|41=>61|5=>5|9=>9|53=>258|57=>262|63=>264|64=>195|n=>n,fun|n=>n⟩
theorem TryzL.sort:Go.Proofs.SlLaysM.n5 Tryz.prog TryzL.sort_ren:={
 mixed:=by kernel_rfl
 f5:=⟨Tryz.f236.name,by decide,Tryz.func236.trans (congrArg some (by kernel_rfl))⟩
 f7:=⟨Tryz.f259.name,by decide,Tryz.func259.trans (congrArg some (by kernel_rfl))⟩
 f8:=Tryz.func260.trans (congrArg some (by kernel_rfl))
 f10:=⟨Tryz.f269.name,by decide,Tryz.func269.trans (congrArg some (by kernel_rfl))⟩
 f11:=⟨Tryz.f270.name,by decide,Tryz.func270.trans (congrArg some (by kernel_rfl))⟩
 f12:=⟨Tryz.f271.name,by decide,Tryz.func271.trans (congrArg some (by kernel_rfl))⟩
 f13:=⟨Tryz.f272.name,by decide,Tryz.func272.trans (congrArg some (by kernel_rfl))⟩
 f14:=⟨Tryz.f273.name,by decide,Tryz.func273.trans (congrArg some (by kernel_rfl))⟩
 f15:=⟨Tryz.f274.name,by decide,Tryz.func274.trans (congrArg some (by kernel_rfl))⟩
 f16:=⟨Tryz.f275.name,by decide,Tryz.func275.trans (congrArg some (by kernel_rfl))⟩
 f17:=⟨Tryz.f276.name,by decide,Tryz.func276.trans (congrArg some (by kernel_rfl))⟩
 f18:=⟨Tryz.f277.name,by decide,Tryz.func277.trans (congrArg some (by kernel_rfl))⟩
 f19:=Tryz.func278.trans (congrArg some (by kernel_rfl))
 f20:=Tryz.func279.trans (congrArg some (by kernel_rfl))
 f30:=⟨Tryz.f282.name,by decide,Tryz.func282.trans (congrArg some (by kernel_rfl))⟩
 f31:=Tryz.func283.trans (congrArg some (by kernel_rfl))
 f32:=Tryz.func284.trans (congrArg some (by kernel_rfl))
 f33:=⟨Tryz.f285.name,by decide,Tryz.func285.trans (congrArg some (by kernel_rfl))⟩
 f34:=⟨Tryz.f286.name,by decide,Tryz.func286.trans (congrArg some (by kernel_rfl))⟩
 f35:=⟨Tryz.f287.name,by decide,Tryz.func287.trans (congrArg some (by kernel_rfl))⟩
 f40:=⟨Tryz.f288.name,by decide,Tryz.func288.trans (congrArg some (by kernel_rfl))⟩
 t0:=Tryz.underlying0
 a0:=Tryz.isAgg0
 z0:=Tryz.sizeOf0
 v0:=Tryz.zeroValue0
 t3:=Tryz.underlying3
 a3:=Tryz.isAgg3
 z3:=Tryz.sizeOf3
 v3:=Tryz.zeroValue3
 t4:=Tryz.underlying4
 a4:=Tryz.isAgg4
 z4:=Tryz.sizeOf4
 v4:=Tryz.zeroValue4
 t5:=Tryz.underlying5
 a5:=Tryz.isAgg5
 z5:=Tryz.sizeOf5
 v5:=Tryz.zeroValue5
 t9:=Tryz.underlying9
 a9:=Tryz.isAgg9
 z9:=Tryz.sizeOf9
 v9:=Tryz.zeroValue9
 t22:=Tryz.underlying32
 a22:=Tryz.isAgg32
 z22:=Tryz.sizeOf32
 v22:=Tryz.zeroValue32
 t23:=Tryz.underlying32
 a23:=Tryz.isAgg32
 z23:=Tryz.sizeOf32
 v23:=Tryz.zeroValue32
 t25:=Tryz.underlying3
 a25:=Tryz.isAgg3
 z25:=Tryz.sizeOf3
 v25:=Tryz.zeroValue3
 t32:=Tryz.underlying192
 a32:=Tryz.isAgg192
 z32:=Tryz.sizeOf192
 v32:=Tryz.zeroValue192
 t35:=Tryz.underlying249
 a35:=Tryz.isAgg249
 z35:=Tryz.sizeOf249
 v35:=Tryz.zeroValue249
 t36:=Tryz.underlying250
 a36:=Tryz.isAgg250
 z36:=Tryz.sizeOf250
 v36:=Tryz.zeroValue250
 t41:=Tryz.underlying61
 a41:=Tryz.isAgg61
 z41:=Tryz.sizeOf61
 v41:=Tryz.zeroValue61
 t44:=Tryz.underlying170
 a44:=Tryz.isAgg170
 z44:=Tryz.sizeOf170
 v44:=Tryz.zeroValue170
 t46:=Tryz.underlying231
 a46:=Tryz.isAgg231
 z46:=Tryz.sizeOf231
 v46:=Tryz.zeroValue231
 t53:=Tryz.underlying258
 a53:=Tryz.isAgg258
 z53:=Tryz.sizeOf258
 v53:=Tryz.zeroValue258
 t57:=Tryz.underlying262
 a57:=Tryz.isAgg262
 z57:=Tryz.sizeOf262
 v57:=Tryz.zeroValue262
 t63:=Tryz.underlying264
 a63:=Tryz.isAgg264
 z63:=Tryz.sizeOf264
 v63:=Tryz.zeroValue264
 t64:=Tryz.underlying195
 a64:=Tryz.isAgg195
 z64:=Tryz.sizeOf195
 v64:=Tryz.zeroValue195 }
end Go.Proofs

namespace Go.Am
open Go.Proofs Go.Sort Go.Shelf
theorem setCells_map (b:Nat):∀(vs:List Value) (o:Nat) (w:World),w.setCells b o vs=mapBlock w b (putL o vs)
 |[],o,w=>by
  unfold World.setCells mapBlock
  have:(onCells (putL o []))=id:=by
   funext x;cases x<;>rfl
  rw[this]
  have h:w.heap.modify b id=w.heap:=by
   apply Array.ext_getElem?;intro k;rw[Array.getElem?_modify];split
   ·cases w.heap[k]?<;>rfl
   ·rfl
  rw[h]
 |v::r,o,w=>by
  rw[World.setCells,setCell_eq,setCells_map b r (o+1),mapBlock_mapBlock];rfl
theorem setCells_putRow' {α:Type} [Inhabited α] (enc:α→Value) (l:List α) (b o:Nat) (w:World):w.setCells b o (l.map enc)=putRow enc w b o l.toArray:=by
 rw[setCells_map];unfold putRow
 congr 1
 funext c;apply Array.ext_getElem?;intro k;rw[putL_get];unfold putCells;rw[Array.getElem?_mapIdx];by_cases h2:k<c.size
 ·have e:c[k]?=some c[k]:=by simp
  rw[e];simp only[Option.map_some,List.length_map,List.size_toArray,h2,and_true];by_cases h:o≤k∧k<o+l.length
  ·rw[if_pos h,if_pos h,List.getElem?_map];have h3:k-o<l.length:=by omega
   rw[List.getElem?_eq_getElem h3];simp[h3]
  ·rw[if_neg h,if_neg h]
 ·rw[if_neg (by omega)];have e:c[k]?=none:=by simp;omega
  rw[e];rfl
theorem intsD_eq:∀{es:List Dat} {l:List Int},intsD es=some l→es=l.map fun n=>.int .i64 n
 |[],l,h=>by cases h;rfl
 |d::r,l,h=>by
  cases d with
  |int k n=>
   cases k with
   |i64=>
    simp only[intsD]at h;cases hr:intsD r with
    |none=>rw[hr]at h;cases h
    |some m=>
     rw[hr]at h;simp only[Option.map_some,Option.some.injEq]at h;subst h;rw[intsD_eq hr];rfl
   |_=>simp[intsD]at h
  |_=>simp[intsD]at h
theorem sort_ms (l:List Int):l.mergeSort (fun x y=>decide (x≤y))=sortS l:=by
 refine pw_uniq ?_ (sortS_pw l) ((List.mergeSort_perm l _).trans (zqd7 l).symm);have:=List.pairwise_mergeSort (le:=fun x y:Int=>decide (x≤y)) (fun a b c h1 h2=>by simp at *;omega) (fun a b=>by simp;omega) l;exact this.imp fun h=>by simpa using h
theorem keptB (w w':World) (h:RowKit.Below w.heap.size w w') (hf:∀a,a.block<w.heap.size→w'.frozen? a=w.frozen? a) (T:Cells):Kept w w' T:=
 ⟨⟨h.os,h.output,fun i hi=>by rw[h.block i hi];exact (World.keptBut_refl w _).2.2 i hi⟩,hf,h.size⟩
theorem frozen_grow (w:World) (os:Array Go.Obj) {a:Addr} (h:a.block<w.heap.size):(grow w os).frozen? a=w.frozen? a:=by
 unfold World.frozen? grow;simp only;rw[Array.getElem?_append_left h]
theorem flat_ints (F:Froz):∀l:List Int,FlatD F 1 (l.map fun n=>Dat.int .i64 n) (l.map (Value.int .i64))
 |[]=>rfl
 |n::r=>⟨[.int .i64 n],_,rfl,rfl,by simp[RepD],flat_ints F r⟩
theorem sortE_ok:zae7 Tryz.prog (sortE 236):=by
 intro f args os v os' h;unfold sortE at h;split at h;rotate_left
 ·cases h
 rename_i hf;subst hf;split at h
 ·rename_i ver len ver' es;split at h;rotate_left
  ·cases h
  rename_i l hl;split at h;rotate_left
  ·cases h
  rename_i hc;obtain⟨rfl,rfl,hbd⟩:=hc;simp only[Option.some.injEq,Prod.mk.injEq]at h;obtain⟨rfl,rfl⟩:=h;refine .inl ⟨by decide,by kernel_rfl,?_⟩;intro C vals hρ hG hI hr;have hes:=intsD_eq hl;have hln:es.length=l.length:=by rw[hes,List.length_map]
  have hρ0:C.ρ ((0,0),0,0)=some (.arr 1 ver false es):=by rw[hρ];simp[flat,zpa7,flatR]
  simp only[RepL,RepA]at hr;obtain⟨c,cs',e1,⟨A,p,cap,a1,a2,e2,a4,a5,a6⟩,e3⟩:=hr;subst e3;have hA:A=⟨ver,1,es.length,C.μ ((0,0),0,0)⟩:=by simpa[arrAt,hρ0]using a1.symm
  subst hA;obtain⟨-,-,g3,g4⟩:=a6 rfl;obtain⟨o1,-,o3,-⟩:=hI.objs _ _ hρ0;obtain⟨own,oel⟩:=o3 rfl
  have hvals:vals=#[.slice p es.length cap]:=by
   apply Array.ext';rw[e1,e2]
  rw[hvals];rcases Nat.eq_zero_or_pos es.length with hz|hz
  ·have h0:es=[]:=List.eq_nil_of_length_eq_zero hz;have hl0:l=[]:=List.eq_nil_of_length_eq_zero (by omega);subst h0;subst hl0;refine (AnyM.slices_Sort_int_none TryzL.sort p cap C.w).mono ?_;rintro e w' ⟨rfl,rfl⟩;exact⟨_,C,rfl,rfl,hρ,hI,by simp[RepA,RepL],fun b o v h=>h,fun id L _ h=>h,fun id A _ h=>⟨A,h,Nat.le_refl _,fun _=>⟨rfl,rfl,Nat.le_refl _⟩⟩,fun id b _ h=>h⟩
  ·have hp:=g4 (by omega);subst hp;generalize hL:C.μ ((0,0),0,0)=L at *
   have hcell:∀j (hj:j<l.length),C.w.cell? ⟨L.b,L.o+j,none⟩=some (.int .i64 l[j]):=by
    intro j hj;have hd:es[j]?=some (.int .i64 l[j]):=by rw[hes];simp[hj]
    obtain⟨cs,q1,q2,q3⟩:=oel j _ hd;simp only[RepD]at q2;subst q2;have:=q3 0 _ rfl;simpa using this
   have hH:Holds (Value.int .i64) C.w (L.b) (L.o+0*1) l.toArray:=by
    intro j hj;have hj':j<l.length:=by simpa using hj
    have h1:=hcell j hj';obtain⟨-,h2,-⟩:=own j (by rw[g3];omega);refine⟨?_,by simpa using h2 (L.o+j)⟩;rw[show L.o+0*1+j=L.o+j by omega,h1];simp[hj']
   have hblk:L.b<C.w.heap.size:=by
    have:=World.block_lt_of_cell? _ _ (hcell 0 (by omega));simpa using this
   rw[hln];refine (AnyM.slices_Sort_int TryzL.sort L.b (L.o+0*1) cap l C.w hH hblk (by omega)).mono ?_;rintro e w' ⟨rfl,n,gs,rfl⟩;have hft:=flat_ints C.F (sortS l);obtain⟨hfit,hI1,hG1⟩:=arr_write hI hρ0 hft (off:=0) (by simp[(zqd7 l).length_eq];omega);rw[hL]at hI1 hG1;have hw:C.w.setCells L.b (L.o+0*1) ((sortS l).map (Value.int .i64))=putRow (Value.int .i64) C.w L.b (L.o+0*1) (sortS l).toArray:=setCells_putRow' _ _ _ _ _;rw[hw]at hI1 hG1;rw[sort_ms];generalize hw1:putRow (Value.int .i64) C.w L.b (L.o+0*1) (sortS l).toArray=w1 at *
   have hw2:grow (putRow (Value.int .i64) (Go.Sort.ahead C.w n) L.b (L.o+0*1) (sortS l).toArray) gs=grow (Go.Sort.ahead w1 n) gs:=by rw[←hw1];rfl
   rw[hw2]
   have hk:Kept w1 (grow (Go.Sort.ahead w1 n) gs) (fun _ _=>False):=keptB w1 (grow (Go.Sort.ahead w1 n) gs) ⟨rfl,rfl,rfl,by simp[grow,Go.Sort.ahead],fun k hk=>by
    show ((Go.Sort.ahead w1 n).heap++gs)[k]?=w1.heap[k]?
    rw[Array.getElem?_append_left (by simpa[Go.Sort.ahead]using hk)];rfl⟩ (fun a ha=>by rw[frozen_grow (Go.Sort.ahead w1 n) gs (by simpa[Go.Sort.ahead]using ha)];rfl) _
   obtain⟨hI2,hG2⟩:=hI1.plain (C':={ w:=grow (Go.Sort.ahead w1 n) gs,F:=C.F,μ:=C.μ,ρ:=updL C.ρ [(((0,0),0,0),.arr 1 ver false (splice es 0 ((sortS l).map fun n=>Dat.int .i64 n)))] }) hk (fun _ _ _ h=>h) (fun b o v h=>.inl h) (fun b o v h e=>by simp only at h e;rw[e]at h;cases h) rfl rfl;have hG:=hG1.trans hG2;refine⟨_,_,rfl,rfl,?_,hI2,by simp[RepA,RepL],hG.F,fun id L _ h=>hG.box id L trivial h,fun id A _ h=>hG.arr id A trivial h,fun id b _ h=>hG.blk id b trivial h⟩
   have hsp:splice es 0 ((sortS l).map fun n=>Dat.int .i64 n)=(sortS l).map fun n=>Dat.int .i64 n:=by
    unfold splice;rw[List.take_zero,List.nil_append,List.length_map,(zqd7 l).length_eq,List.drop_eq_nil_of_le (by omega),List.append_nil]
   rw[hsp,hρ];funext ⟨⟨a,b⟩,c,d⟩;simp only[updL,flat,zpa7];by_cases ha:a=0
   ·subst ha;cases b with
    |zero=>
     simp only[if_true,List.getElem?_cons_zero,flatR];by_cases hc:c=0∧d=0
     ·obtain⟨rfl,rfl⟩:=hc;simp
     ·rw[if_neg hc,if_neg hc,if_neg];simp only[Prod.mk.injEq,true_and];exact fun e=>hc ⟨e.1.symm,e.2.symm⟩
    |succ b=>simp
   ·rw[if_neg (by simp[ha,Ne.symm ha])];simp[ha]
 ·simp only[Option.some.injEq,Prod.mk.injEq]at h;obtain⟨rfl,rfl⟩:=h;refine .inl ⟨by decide,by kernel_rfl,?_⟩;intro C vals hρ hG hI hr;simp only[RepL,RepA]at hr;obtain⟨c,cs',e1,⟨p,e2⟩,e3⟩:=hr;subst e3
  have hvals:vals=#[.slice p 0 0]:=by
   apply Array.ext';rw[e1,e2]
  rw[hvals];refine (AnyM.slices_Sort_int_none TryzL.sort p 0 C.w).mono ?_;rintro e w' ⟨rfl,rfl⟩;exact⟨_,C,rfl,rfl,hρ,hI,by simp[RepA,RepL],fun b o v h=>h,fun id L _ h=>h,fun id A _ h=>⟨A,h,Nat.le_refl _,fun _=>⟨rfl,rfl,Nat.le_refl _⟩⟩,fun id b _ h=>h⟩
 ·cases h
end Go.Am
