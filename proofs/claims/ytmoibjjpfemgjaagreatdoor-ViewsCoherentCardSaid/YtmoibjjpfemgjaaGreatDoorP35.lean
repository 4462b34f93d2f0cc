/- Parts of the proofs of the statement, joined and made short: V43 V44 V45 V46 V47 V48 V49 V50 V51 V52 V53 V54 ZLay. -/
import Derived.Test.YtmoibjjpfemgjaaGreatDoorP34
import Derived.Test.YtmoibjjpfemgjaaGreatDoorP20
import Derived.Shelf.SlGeneric
import Derived.Shelf.SortM.Plain
import Derived.Shelf.SortM.SortNone
import Derived.Ground.SlgmProg
set_option linter.unusedVariables false
set_option linter.unusedSimpArgs false
set_option linter.unusedSectionVars false
set_option maxHeartbeats 8000000
namespace Go.Am.E
open Go.Proofs Go.Ex Go.Rc
theorem gdM_at {s:Ra} {x:Nat} (h:gdM s x=true) {j:Nat} {m:Msg} (hm:(gt2 s.ms x)[j]?=some m):(0≤m.ev∧m.ev<s.ev.length)∧(gt2 s.mo x)[j]?=some m.ev∧((gt2 s.mo x).take j).contains m.ev=false∧
  ∃e,s.ev[m.ev.toNat]?=some e∧(e.kind=2∨e.kind=5)∧e.obj=x∧e.wr=m.val∧okV m.val=true:=by
 simp only[gdM,Bool.and_eq_true,decide_eq_true_eq]at h;have h1:=alI_all.1 h.2 j m hm;simp only[Bool.and_eq_true,decide_eq_true_eq,Nat.zero_add,Bool.not_eq_true']at h1;obtain⟨⟨⟨h1,h2⟩,h3⟩,h4⟩:=h1;refine⟨h1,h2,h3,?_⟩;cases he:s.ev[m.ev.toNat]? with
 |none=>rw[he]at h4;cases h4
 |some e=>
  rw[he]at h4;simp only[Bool.and_eq_true,Bool.or_eq_true,decide_eq_true_eq]at h4;exact⟨e,rfl,h4.1.1.1,h4.1.1.2,h4.1.2,h4.2⟩
theorem Vl.e0 {p:Pg} {bd:Int} {s:Ra} (h:Vl p bd s):Ev0 s.ms:=fun d m hm=>by
 by_cases hd:d<s.ms.length
 ·exact (gdM_ev (h.gm d hd) m hm).1
 ·rw[zle7 hd]at hm;cases hm
theorem Vl.fr {p:Pg} {bd:Int} {s:Ra} (h:Vl p bd s) (d:Nat):∀b∈gt2 s.ms d,b.ev<s.ev.length:=fun m hm=>by
 by_cases hd:d<s.ms.length
 ·exact (gdM_ev (h.gm d hd) m hm).2
 ·rw[zle7 hd]at hm;cases hm
theorem Vl.ds {p:Pg} {bd:Int} {s:Ra} (h:Vl p bd s) (d:Nat) (i j:Nat) (a b:Msg) (ha:(gt2 s.ms d)[i]?=some a) (hb:(gt2 s.ms d)[j]?=some b) (hij:i<j):a.ev≠b.ev:=by
 intro he;by_cases hd:d<s.ms.length
 ·have h1:=(gdM_at (h.gm d hd) ha).2.1;have h2:=(gdM_at (h.gm d hd) hb).2.2.1;rw[he]at h1;have:b.ev∈(gt2 s.mo d).take j:=List.mem_of_getElem? (i:=i) (by rw[List.getElem?_take,if_pos hij];exact h1);rw[←List.contains_iff_mem,h2]at this;cases this
 ·rw[zle7 hd]at ha;cases ha
theorem Vl.afd {p:Pg} {bd:Int} {s:Ra} (h:Vl p bd s) {o:Nat} (ho:o<s.ms.length) {W:List Int} (hW:Gd s.ms W):Afd s o W:=
 ⟨ho,h.e0,h.ds o,hW,fun m hm=>gdV_gd (h.mv _ (List.mem_of_getElem? (zac7 ho)) m hm)⟩
theorem Vl.gdk {p:Pg} {bd:Int} {s:Ra} (h:Vl p bd s) {k:Nat} (hk:k<s.th.length):Gd s.ms (gt2 s.vs k):=
 gdV_gd (h.gv _ (List.mem_of_getElem? (zac7 (by rw[h.hvl];exact hk))))
theorem reg_ok {p:Pg} {bd:Int} {t:Th} {b:Int} (h:frmT p bd t=true) (hb:0≤b∧b<8):okV (reg t b)=true:=by
 unfold frmT at h;split at h
 ·cases h
 ·simp only[Bool.and_eq_true,List.all_eq_true]at h;obtain⟨j,hj,j1,-⟩:=rg8 hb;have h1:=h.1.1.1.1.1.1.2 j (List.mem_range.2 j1);rw[hj];simpa[reg]using h1
theorem StR.pi {p:Pg} {bd:Int} {s:Ra} {ag ch:Int} {k:Nat} {t:Th} {i:In} (S:StR p bd s ag ch k t i) (hb:Tb t):Pi p i∧vis i.op=true∧t.ss=1∧frmT p bd t=true:=by
 obtain⟨a,b,c,d,-⟩:=pen_pi (zge7 S.b).1 hb S.pn;have hok:=S.v.ok t (List.mem_of_getElem? S.th);unfold okT at hok;rw[Bool.and_eq_true]at hok;exact⟨a,b,c,hok.1⟩
theorem exX_x0 (p:Pg) (bd:Int) (s:Ra) (ag ch:Int) (k:Nat) (t:Th) (i:In):exX (x0R p bd s ag ch k t i) t k=
  if i.op=13 then kdX (x0R p bd s ag ch k t i) 7
  else if i.op=15∨i.op=16∨i.op=17 then mxX (x0R p bd s ag ch k t i) k i.o.toNat (gt2 s.vs k) (gt2 s.lk i.o.toNat)
  else if i.op=18 then wtX (x0R p bd s ag ch k t i) t k i.n.toNat i.o.toNat (gt2 s.vs k) (gt2 s.lk i.n.toNat) (gt2 s.sg i.o.toNat)
  else if i.op=19∨i.op=20 then sgX (x0R p bd s ag ch k t i) k i.o.toNat (gt2 s.vs k) (gt2 s.sg i.o.toNat)
  else if i.op=21 then (match chd t with
   |none=>erX (x0R p bd s ag ch k t i) 30
   |some c=>if (fndT s.th c).isSome=true∨newE p bd c i.o (reg t i.b)≠0 then erX (x0R p bd s ag ch k t i) 30 else spX (x0R p bd s ag ch k t i) k (posT c s.th) (gt2 s.vs k) (newT p bd c i.o (reg t i.b)))
  else if i.op=22 then (match fndT s.th (reg t i.b) with
   |none=>koX (x0R p bd s ag ch k t i) 17 (reg t i.b)
   |some j=>setV (koX (x0R p bd s ag ch k t i) 17 (reg t i.b)) k (jnV s.ms (gt2 s.vs k) (gt2 s.vs j) 0))
  else acX (x0R p bd s ag ch k t i) t k i.o.toNat (gt2 s.vs k) ch.toNat:=rfl
theorem stp_eff {p:Pg} {bd:Int} {s:Ra} {ag ch:Int} {k:Nat} {t:Th} {i:In} (S:StR p bd s ag ch k t i) (hb:Tb t) (h21:i.op≠21):∃w',Eff p s k (gt2 s.vs k) (exX (x0R p bd s ag ch k t i) t k) w':=by
 obtain⟨P,hvi,hss,hfr⟩:=S.pi hb;have hkl:=(zca7 S.th).2.2;have gW:=S.v.gdk hkl;have h0:=S.v.e0;simp only[vis,decide_eq_true_eq]at hvi;have gl:∀o:Nat,o<p.ms.length→Gd s.ms (gt2 s.lk o):=fun o ho=>gdV_gd (S.v.gl _ (List.mem_of_getElem? (zac7 (by rw[S.v.hlk];exact ho))))
 have gs:∀o:Nat,o<p.cs.length→Gd s.ms (gt2 s.sg o):=fun o ho=>gdV_gd (S.v.gs _ (List.mem_of_getElem? (zac7 (by rw[S.v.hsg];exact ho))))
 have oM:i.op=15∨i.op=16∨i.op=17→i.o.toNat<p.ms.length:=fun ho=>by
  obtain⟨o,h1,h2⟩:=P.ob (by unfold nob;rw[if_neg (by omega),if_pos ho];omega);unfold nob at h2;rw[if_neg (by omega),if_pos ho]at h2;omega
 have oC:i.op=18∨i.op=19∨i.op=20→i.o.toNat<p.cs.length:=fun ho=>by
  obtain⟨o,h1,h2⟩:=P.ob (by unfold nob;rw[if_neg (by omega),if_neg (by omega),if_pos ho];omega);unfold nob at h2;rw[if_neg (by omega),if_neg (by omega),if_pos ho]at h2;omega
 by_cases o13:i.op=13
 ·have e:exX (x0R p bd s ag ch k t i) t k=kdX (x0R p bd s ag ch k t i) 7:=by rw[exX_x0,if_pos o13]
  rw[e];exact⟨gt2 s.vs k,Eff.quiet q7 rfl rfl (set_at (zac7 (show k<s.vs.length by rw[S.v.hvl];exact hkl))).symm rfl (Vle.rfl' _ _) rfl rfl rfl⟩
 by_cases hM:i.op=15∨i.op=16∨i.op=17
 ·have e:exX (x0R p bd s ag ch k t i) t k=mxX (x0R p bd s ag ch k t i) k i.o.toNat (gt2 s.vs k) (gt2 s.lk i.o.toNat):=by
   rw[exX_x0,if_neg o13,if_pos hM]
  rw[e];exact⟨_,eff_mx i.o.toNat (x:=x0R p bd s ag ch k t i) rfl rfl h0 gW (gl _ (oM hM))⟩
 by_cases hW:i.op=18
 ·obtain⟨n,hn,hn2⟩:=P.mu hW
  have e:exX (x0R p bd s ag ch k t i) t k=wtX (x0R p bd s ag ch k t i) t k i.n.toNat i.o.toNat (gt2 s.vs k) (gt2 s.lk i.n.toNat) (gt2 s.sg i.o.toNat):=by
   rw[exX_x0,if_neg o13,if_neg hM,if_pos hW]
  rw[e];exact eff_wt t i.n.toNat i.o.toNat (x:=x0R p bd s ag ch k t i) rfl rfl h0 gW (gl _ (by omega)) (gs _ (oC (.inl hW)))
 by_cases hS:i.op=19∨i.op=20
 ·have e:exX (x0R p bd s ag ch k t i) t k=sgX (x0R p bd s ag ch k t i) k i.o.toNat (gt2 s.vs k) (gt2 s.sg i.o.toNat):=by
   rw[exX_x0,if_neg o13,if_neg hM,if_neg hW,if_pos hS]
  rw[e];exact⟨_,eff_sg i.o.toNat (x:=x0R p bd s ag ch k t i) rfl rfl h0 gW (gs _ (oC (by omega)))⟩
 by_cases hJ:i.op=22
 ·cases hf:fndT s.th (reg t i.b) with
  |none=>
   have e:exX (x0R p bd s ag ch k t i) t k=koX (x0R p bd s ag ch k t i) 17 (reg t i.b):=by
    rw[exX_x0,if_neg o13,if_neg hM,if_neg hW,if_neg hS,if_neg h21,if_pos hJ,hf]
   rw[e];exact⟨gt2 s.vs k,Eff.quiet q17 rfl rfl (set_at (zac7 (show k<s.vs.length by rw[S.v.hvl];exact hkl))).symm rfl (Vle.rfl' _ _) rfl rfl rfl⟩
  |some j=>
   have e:exX (x0R p bd s ag ch k t i) t k=setV (koX (x0R p bd s ag ch k t i) 17 (reg t i.b)) k (jnV s.ms (gt2 s.vs k) (gt2 s.vs j) 0):=by
    rw[exX_x0,if_neg o13,if_neg hM,if_neg hW,if_neg hS,if_neg h21,if_pos hJ,hf]
   rw[e];obtain⟨u,hu,-⟩:=fndT_get hf;have gj:=S.v.gdk (zca7 hu).2.2;exact⟨_,Eff.quiet q17 rfl rfl rfl (zcb7 ..) (jn_le h0 gW gj) rfl rfl rfl⟩
 ·have ha:acc i.op=true:=by simp[acc];omega
  obtain⟨o,ho,ho2⟩:=P.va (acc_op ha);have hom:o<s.ms.length:=by rw[S.v.hms];exact ho2
  have hpos:=fun y (hy:(gt2 s.vs k)[o]?=some y)=>gW.pos o y hy
  have hgo:(gt2 s.vs k)[o]?=some ((gt2 s.vs k)[o]'(by rw[gW.len];exact hom)):=List.getElem?_eq_getElem _
  have hp0:0≤posM (gt2 s.ms i.o.toNat) (((gt2 s.vs k)[i.o.toNat]?).getD 0):=by
   rw[ho,Int.toNat_natCast,hgo];exact hpos _ hgo
  obtain⟨c,hc,hP,hcc⟩:=chs_ac S.pn ha S.hc hp0
  have e:exX (x0R p bd s ag ch k t i) t k=acX (x0R p bd s ag ch k t i) t k o (gt2 s.vs k) c:=by
   rw[exX_x0,if_neg o13,if_neg hM,if_neg hW,if_neg hS,if_neg h21,if_neg hJ,ho,hc,Int.toNat_natCast,Int.toNat_natCast]
  rw[e];rw[ho,Int.toNat_natCast]at hP hp0;have hrg:=P.reg;refine eff_ac (x:=x0R p bd s ag ch k t i) rfl rfl ho (S.v.afd hom gW) (S.v.fr o) ha hP hp0 (fun y hy=>?_) (fun h=>reg_ok hfr (hrg.2.1 ?_)) (fun h=>reg_ok hfr (hrg.2.2 ?_))
  ·have hy:(gt2 s.vs k)[o]?=some y:=hy;rw[hy,Option.getD_some];exact (pos_pl (h0 o) (hpos y hy)).symm
  ·have h:i.op=9∨i.op=10:=h;rcases h with h|h<;>rw[h]<;>rfl
  ·have h:i.op=12:=h;rw[h];rfl
end Go.Am.E

set_option maxHeartbeats 8000000
namespace Go.Am.E
open Go.Proofs Go.Ex Go.Rc
theorem ids_set {l:List Th} {k:Nat} {t u:Th} (h:l[k]?=some t) (hid:u.id=t.id):(l.set k u).map Th.id=l.map Th.id:=by
 rw[List.map_set,hid];exact set_at (by rw[List.getElem?_map,h];rfl)
theorem fndT_ids {l l':List Th} (h:l.map Th.id=l'.map Th.id) (e:Int):fndT l e=fndT l' e:=by
 rw[fndT_fx,fndT_fx];exact fx_map h e
def thI (i:In) (m j:Nat):Nat:=if i.op=21 then (if j<m then j else j+1) else j
structure Tvs (p:Pg) (s:Ra) (k:Nat) (W:List Int) (s':Ra) (w':List Int) (f:Nat→Nat):Prop where
 vt:s'.vs.length=s'.th.length
 fn:∀j a,s.th[j]?=some a→fndT s'.th a.id=some (f j)
 row:∀j w,s.vs[j]?=some w→j≠k→s'.vs[f j]?=some w
 own:s'.vs[f k]?=some w'
theorem stp_sp {p:Pg} {bd:Int} {s:Ra} {ag ch:Int} {k:Nat} {t:Th} {i:In} (S:StR p bd s ag ch k t i) (h21:i.op=21):∃c,chd t=some c∧fndT s.th c=none∧exX (x0R p bd s ag ch k t i) t k=spX (x0R p bd s ag ch k t i) k (posT c s.th) (gt2 s.vs k) (newT p bd c i.o (reg t i.b)):=by
 have her:=S.er;rw[exX_x0,if_neg (by omega),if_neg (by omega),if_neg (by omega),if_neg (by omega),if_pos h21]at her ⊢;cases hc:chd t with
 |none=>rw[hc]at her;exact absurd her (by show (30:Int)≠0;decide)
 |some c=>
  rw[hc]at her;dsimp only at her ⊢;split at her
  ·exact absurd her (by show (30:Int)≠0;decide)
  ·rename_i hn;refine⟨c,rfl,?_,by rw[if_neg hn]⟩;cases hf:fndT s.th c with
   |none=>rfl
   |some j=>exact absurd (.inl (by rw[hf];rfl)) hn
theorem Tvs.of_eff {p:Pg} {bd:Int} {s:Ra} {ag ch:Int} {k:Nat} {t:Th} {i:In} (S:StR p bd s ag ch k t i) {w':List Int} {z:Stq} (E:Eff p s k (gt2 s.vs k) z w'):Tvs p s k (gt2 s.vs k) (afR p bd t z) w' id:=by
 have hth:(afR p bd t z).th=s.th.set k (cmpT p bd t z.re):=by
  show z.s.th.set z.ix.toNat _=_
  rw[E.th,E.ix,Int.toNat_natCast]
 have hids:(afR p bd t z).th.map Th.id=s.th.map Th.id:=by rw[hth];exact ids_set S.th cmpT_id
 have hvs:(afR p bd t z).vs=s.vs.set k w':=E.vs;have hkv:k<s.vs.length:=by rw[S.v.hvl];exact (zca7 S.th).2.2
 refine⟨by rw[hvs,hth,List.length_set,List.length_set];exact S.v.hvl,fun j a ha=>?_,fun j w hw hj=>?_,?_⟩
 ·rw[fndT_ids hids];exact fndT_srt S.v.so ha
 ·rw[hvs,id,List.getElem?_set_ne (Ne.symm hj)];exact hw
 ·rw[hvs,id,List.getElem?_set_self hkv]
theorem Tvs.of_sp {p:Pg} {bd:Int} {s:Ra} {ag ch:Int} {k:Nat} {t:Th} {i:In} (S:StR p bd s ag ch k t i) {c:Int} (hf:fndT s.th c=none) {C:Th} (hC:C.id=c):Tvs p s k (gt2 s.vs k) (afR p bd t (spX (x0R p bd s ag ch k t i) k (posT c s.th) (gt2 s.vs k) C)) (gt2 s.vs k) (fun j=>if j<posT c s.th then j else j+1):=by
 have hm:=posT_le c s.th;generalize posT c s.th=m at *
 have hkl:=(zca7 S.th).2.2;have hvl:=S.v.hvl
 have hth:(afR p bd t (spX (x0R p bd s ag ch k t i) k m (gt2 s.vs k) C)).th=(ins s.th m C).set (if k<m then k else k+1) (cmpT p bd t c):=by
  show (ins s.th m C).set (Int.toNat (if m≤k then (k:Int)+1 else k)) (cmpT p bd t C.id)=_
  rw[hC];by_cases h:m≤k
  ·rw[if_pos h,if_neg (by omega)];rfl
  ·rw[if_neg h,if_pos (by omega)];rfl
 have hat:(ins s.th m C)[if k<m then k else k+1]?=some t:=by rw[ins_old C s.th m k hm];exact S.th
 have hids:(afR p bd t (spX (x0R p bd s ag ch k t i) k m (gt2 s.vs k) C)).th.map Th.id=(ins s.th m C).map Th.id:=by rw[hth];exact ids_set hat cmpT_id
 have hvs:(afR p bd t (spX (x0R p bd s ag ch k t i) k m (gt2 s.vs k) C)).vs=ins s.vs m (gt2 s.vs k):=rfl;refine⟨by rw[hvs,hth,List.length_set,zke7 _ _ _ hm,zke7 _ _ _ (by omega)];omega,fun j a ha=>?_,fun j w hw hj=>?_,?_⟩
 ·rw[fndT_ids hids,fndT_fx]
  have hne:C.id≠a.id:=by
   intro he;rw[fndT_fx]at hf;exact fx_none.1 hf a (List.mem_of_getElem? ha) (by rw[←he,hC])
  rw[fx_ins_old hne,←fndT_fx,fndT_srt S.v.so ha];rfl
 ·rw[hvs,ins_old _ s.vs m j (by omega)];exact hw
 ·rw[hvs,ins_old _ s.vs m k (by omega)];exact zac7 (by omega)
end Go.Am.E

set_option maxRecDepth 10000
set_option maxHeartbeats 16000000
namespace Go.Am.E
open Go.Proofs Go.Ex Go.Rc
end Go.Am.E

set_option maxRecDepth 10000
set_option maxHeartbeats 16000000
namespace Go.Am.E
open Go.Proofs Go.Ex Go.Rc
attribute [local simp] MsD
def Mgo (s:Ra) (x i:Nat) (m:Msg):Prop:=(gt2 s.mo x)[i]?=some m.ev∧∃(j:Nat) (e:Evt),m.ev=j∧s.ev[j]?=some e∧e.wr=m.val∧e.obj=x∧wrE e=true
def Ego (p:Pg) (s:Ra) (e:Evt) (r:Int):Prop:=if rdE' e then ∃o:Nat,e.obj=o∧o<p.vs.length∧((r = -1∧e.rd=((p.vs[o]?).map (·.2)).getD 0)∨∃(j:Nat) (u:Evt),r=j∧s.ev[j]?=some u∧e.rd=u.wr) else r = -2
def smL (l:List (List Msg)):Nat:=(l.map List.length).sum
def cnW (l:List Evt):Nat:=(l.filter fun e=>wrE e).length
structure Mes (p:Pg) (s:Ra):Prop where
 ms:s.ms.length=p.vs.length
 mo:s.mo.length=p.vs.length
 rf:s.rf.length=s.ev.length
 mg:∀(x i:Nat) (m:Msg),(gt2 s.ms x)[i]?=some m→Mgo s x i m
 eg:∀(i:Nat) (e:Evt) (r:Int),s.ev[i]?=some e→s.rf[i]?=some r→Ego p s e r
 cn:smL s.ms=cnW s.ev
abbrev G7 (s:Ra):TObj:=.plain (.box [.dat (.sl (s.ev.map ED)),.dat (Ns s.rf),.dat (LsD s.mo)])
abbrev E7 (w:Int):Env:=[(1,.ref ((2,0),0,0) 0),(5,.ref ((6,0),0,0) 0),(6,.dat (N w))]
abbrev E7m (s:Ra) (k:Nat):Env:=[(69,.dat (MLD s.ms)),(70,.dat (N s.ms.length)),(71,.dat (N k))]
abbrev X7 (p:Pg) (bd:Int) (l:List (Int×Int)) (s:Ra):zra7:=[((2,0),wbx p bd l),((6,0),G7 s)]
end Go.Am.E

set_option maxRecDepth 10000
set_option maxHeartbeats 16000000
namespace Go.Am.E
open Go.Proofs Go.Ex Go.Rc
theorem runR_ne {p:Pg} {bd:Int}:∀{l:List (Int×Int)} {s:Ra} {e:Int},runR p bd s l=.inl e→e≠0
 |[],s,e,h=>by cases h
 |k::r,s,e,h=>by
  simp only[runR]at h;cases hs:stpR p bd s k.1 k.2 with
  |inl e'=>rw[hs]at h;cases h;exact stpR_ne hs
  |inr x=>rw[hs]at h;exact runR_ne h
theorem ranR_ne {p:Pg} {bd:Int} {l:List (Int×Int)} {e:Int} (h:ranR p bd l=.inl e):e≠0:=by
 unfold ranR at h;split at h
 ·cases h;assumption
 ·split at h
  ·cases h;decide
  ·exact runR_ne h
end Go.Am.E

set_option maxHeartbeats 8000000
namespace Go.Am.E
open Go.Proofs Go.Ex Go.Rc
def Evs (E:Evt) (r:Int) (e:Evt):Prop:=e.ag=E.ag∧e.idx=E.idx∧e.mux=E.mux∧e.ent=E.ent∧e.ord=r∧(e.kind=2→e.rd=E.rd)∧(e.kind≠2→e.kind≠5→e.wr=E.wr)
theorem evs_rd (x:Stq) (d:Int) (hd:d≠2) (k v:Nat) (W:List Int) (c:Nat) (hc:c≤(gt2 x.s.ms v).length) (o r:Int):Evs x.e r (rdX (kdX (obX x o r) d) k v W c).e:=by
 unfold rdX;cases c with
 |zero=>exact⟨rfl,rfl,rfl,rfl,rfl,fun h=>absurd h hd,fun _ _=>rfl⟩
 |succ c=>
  obtain⟨m,hm⟩:∃m,(gt2 x.s.ms v)[c]?=some m:=⟨_,List.getElem?_eq_getElem (show c<(gt2 x.s.ms v).length by omega)⟩;dsimp only;rw[hm];exact⟨rfl,rfl,rfl,rfl,rfl,fun h=>absurd h hd,fun _ _=>rfl⟩
theorem evs_up (x:Stq) (k v:Nat) (W:List Int) (c:Nat) (hc:c≤(gt2 x.s.ms v).length) (o r u:Int):Evs x.e r (upX (obX x o r) k v W c u).e:=by
 unfold upX;cases c with
 |zero=>exact⟨rfl,rfl,rfl,rfl,rfl,fun h=>absurd h (show (5:Int)≠2 by decide),fun _ h=>absurd rfl h⟩
 |succ c=>
  obtain⟨m,hm⟩:∃m,(gt2 x.s.ms v)[c]?=some m:=⟨_,List.getElem?_eq_getElem (show c<(gt2 x.s.ms v).length by omega)⟩;dsimp only;rw[hm];exact⟨rfl,rfl,rfl,rfl,rfl,fun h=>absurd h (show (5:Int)≠2 by decide),fun _ h=>absurd rfl h⟩
theorem evs_ac (x:Stq) (t:Th) (k v:Nat) (W:List Int) (c:Nat) (hc:x.i.op≠9→c≤(gt2 x.s.ms v).length):Evs x.e x.i.r (acX x t k v W c).e:=by
 unfold acX;dsimp only;split
 ·rename_i h;have hc:=hc (by omega);split
  ·exact evs_rd x 8 (by decide) k v W c hc _ _
  ·exact evs_rd x 1 (by decide) k v W c hc _ _
 split
 ·exact⟨rfl,rfl,rfl,rfl,rfl,fun _=>rfl,fun h=>absurd rfl h⟩
 rename_i h9;have hc:=hc h9;split
 ·exact evs_up x k v W c hc _ _ _
 split
 ·exact evs_up x k v W c hc _ _ _
 split
 ·exact evs_up x k v W c hc _ _ _
 ·exact evs_rd x 6 (by decide) k v W c hc _ _
end Go.Am.E

set_option maxHeartbeats 8000000
namespace Go.Am.E
open Go.Proofs Go.Ex Go.Rc
theorem qk_mx (x:Stq) (k i:Nat) (v o:List Int):Qk (mxX x k i v o).e.kind:=by
 unfold mxX tkX
 repeat' split
 all_goals first|exact q9|exact q10|exact q11
theorem qk_wt (x:Stq) (t:Th) (k i c:Nat) (v o u:List Int):Qk (wtX x t k i c v o u).e.kind:=by
 unfold wtX tkX
 repeat' split
 all_goals first|exact q12|exact q13|exact q9
theorem qk_sg (x:Stq) (k c:Nat) (v u:List Int):Qk (sgX x k c v u).e.kind:=by
 unfold sgX;split
 ·exact q14
 ·exact q15
theorem stp_evs {p:Pg} {bd:Int} {s:Ra} {ag ch:Int} {k:Nat} {t:Th} {i:In} (S:StR p bd s ag ch k t i) (hb:Tb t) (hk:¬Qk (exX (x0R p bd s ag ch k t i) t k).e.kind):acc i.op=true∧Evs (x0R p bd s ag ch k t i).e i.r (exX (x0R p bd s ag ch k t i) t k).e:=by
 obtain⟨P,hvi,hss,hfr⟩:=S.pi hb;simp only[vis,decide_eq_true_eq]at hvi;cases ha:acc i.op
 ·exfalso;apply hk;rw[exX_x0];split
  ·exact q7
  split
  ·exact qk_mx ..
  split
  ·exact qk_wt ..
  split
  ·exact qk_sg ..
  split
  ·split
   ·exact q0
   ·split
    ·exact q0
    ·exact q16
  split
  ·split
   ·exact q17
   ·exact q17
  ·exfalso;simp[acc]at ha;omega
 ·refine⟨rfl,?_⟩;have hop:=acc_op ha;obtain⟨o,ho,ho2⟩:=P.va hop;have hom:o<s.ms.length:=by rw[S.v.hms];exact ho2
  have gW:=S.v.gdk (zca7 S.th).2.2
  have hp0:0≤posM (gt2 s.ms i.o.toNat) (((gt2 s.vs k)[i.o.toNat]?).getD 0):=by
   have hgo:(gt2 s.vs k)[o]?=some ((gt2 s.vs k)[o]'(by rw[gW.len];exact hom)):=List.getElem?_eq_getElem _;rw[ho,Int.toNat_natCast,hgo];exact gW.pos o _ hgo
  obtain⟨c,hc,-,hcc⟩:=chs_ac S.pn ha S.hc hp0
  have e:exX (x0R p bd s ag ch k t i) t k=acX (x0R p bd s ag ch k t i) t k i.o.toNat (gt2 s.vs k) c:=by
   rw[exX_x0,if_neg (by omega),if_neg (by omega),if_neg (by omega),if_neg (by omega),if_neg (by omega),if_neg (by omega),hc,Int.toNat_natCast]
  rw[e]
  exact evs_ac (x0R p bd s ag ch k t i) t k i.o.toNat (gt2 s.vs k) c (fun h9=>by
   have h9:i.op≠9:=h9;rcases hcc with h|h
   ·exact absurd h.1 h9
   ·exact h.2)
structure Iv (p:Pg) (s:Ra):Prop where
 rl:s.rf.length=s.ev.length
 eg:∀(i:Nat) (e:Evt) (r:Int),s.ev[i]?=some e→s.rf[i]?=some r→Ego p s e r
 wv:∀e∈s.ev,e.kind=2∨e.kind=5→wrE e=true
 cn:smL s.ms=cnW s.ev
end Go.Am.E

set_option maxHeartbeats 8000000
namespace Go.Am.E
open Go.Proofs Go.Ex Go.Rc
def Wrs (s s':Ra) (e:Evt):Prop:=(s'.ms=s.ms∧s'.mo=s.mo∧e.kind≠2∧e.kind≠5)∨∃(o pl:Nat) (vw:List Int),e.obj=o∧o<s.ms.length∧(e.kind=2∨e.kind=5)∧s'.ms=s.ms.set o (ins (gt2 s.ms o) pl ⟨s.ev.length,e.wr,vw⟩)∧s'.mo=s.mo.set o (ins (gt2 s.mo o) pl s.ev.length)∧pl≤(gt2 s.ms o).length
structure Stf (p:Pg) (bd:Int) (s s':Ra) (e:Evt) (r:Int):Prop where
 V:Vl p bd s
 ev:s'.ev=s.ev++[e]
 rf:s'.rf=s.rf++[r]
 W:Wrs s s' e
 E:Ego p s' e r
 D:e.kind=2∨e.kind=5→wrE e=true
 n4:e.kind≠4
end Go.Am.E

set_option maxHeartbeats 8000000
namespace Go.Am.E
open Go.Proofs Go.Ex Go.Rc
def aeE (e:Evt):Prop:=rdE' e=true∨wrE e=true
def frE (i:Nat) (e:Evt) (r:Int):Int:=if wrE e=true then i else r
def toE (i:Nat) (e:Evt) (r:Int):Int:=if rdE' e=true then r else i
structure Ic (s:Ra):Prop where
 rl:s.rf.length=s.ev.length
 rb:∀(i:Nat) (r:Int),s.rf[i]?=some r→r<s.ev.length
 ob:∀(i:Nat) (e:Evt),s.ev[i]?=some e→aeE e→∃o:Nat,e.obj=o∧o<s.ms.length
 vi:∀(i:Nat) (e:Evt) (r:Int) (o:Nat),s.ev[i]?=some e→s.rf[i]?=some r→aeE e→e.obj=o→∃k,fndT s.th e.ag=some k∧∀y,(gt2 s.vs k)[o]?=some y→plM (gt2 s.ms o) (frE i e r)≤plM (gt2 s.ms o) y
 pr:∀(i j:Nat) (a b:Evt) (q r:Int) (o:Nat),i<j→s.ev[i]?=some a→s.rf[i]?=some q→s.ev[j]?=some b→s.rf[j]?=some r→aeE a→aeE b→a.ag=b.ag→a.obj=o→b.obj=o→plM (gt2 s.ms o) (frE i a q)≤plM (gt2 s.ms o) (toE j b r)
 up:∀(j:Nat) (b:Evt) (r:Int) (o:Nat),s.ev[j]?=some b→s.rf[j]?=some r→wrE b=true→b.kind=5→b.obj=o→plM (gt2 s.ms o) j=plM (gt2 s.ms o) r+1
structure Cof (p:Pg) (bd:Int) (s s':Ra) (e:Evt) (r:Int) (ag:Int) (k:Nat) (W w':List Int) (f:Nat→Nat):Prop where
 V:Vl p bd s
 ev:s'.ev=s.ev++[e]
 rf:s'.rf=s.rf++[r]
 hk:∃t,s.th[k]?=some t∧t.id=ag
 hW:gt2 s.vs k=W
 ea:aeE e→e.ag=ag
 T:Tvs p s k W s' w' f
 le:Vle s'.ms W w'
 wr:(s'.ms=s.ms∧e.kind≠2∧e.kind≠5)∨∃(o pl:Nat) (vw:List Int),e.obj=o∧o<s.ms.length∧s'.ms=s.ms.set o (ins (gt2 s.ms o) pl ⟨s.ev.length,e.wr,vw⟩)∧pl≤(gt2 s.ms o).length∧Nup s o pl∧w'[o]?=some (s.ev.length:Int)∧(e.kind=5→plM (gt2 s.ms o) r=pl)
 rd:rdsK e.kind=true→∃o:Nat,e.obj=o∧o<s.ms.length∧(∀y,W[o]?=some y→plM (gt2 s.ms o) y≤plM (gt2 s.ms o) r)∧(∀y,w'[o]?=some y→plM (gt2 s'.ms o) r≤plM (gt2 s'.ms o) y)
 rn:r<s.ev.length
 n4:e.kind≠4
theorem ms_mono {p:Pg} {bd:Int} {s s':Ra} {e:Evt} {r ag:Int} {k:Nat} {W w':List Int} {f:Nat→Nat} (C:Cof p bd s s' e r ag k W w' f) (o:Nat) {a b:Int} (ha:a<s.ev.length) (hb:b<s.ev.length) (h:plM (gt2 s.ms o) a≤plM (gt2 s.ms o) b):plM (gt2 s'.ms o) a≤plM (gt2 s'.ms o) b:=by
 rcases C.wr with⟨h1,-⟩|⟨o',pl,vw,-,h2,h3,-⟩
 ·rw[h1];exact h
 ·rw[h3];by_cases ho:o=o'
  ·subst ho;rw[gt2_set h2,plM_old (by dsimp only;omega),plM_old (by dsimp only;omega)];split<;>split<;>omega
  ·rw[gt2_set_ne ho];exact h
theorem frE_lt {s:Ra} (I:Ic s) {i:Nat} {e:Evt} {r:Int} (h:s.ev[i]?=some e) (hr:s.rf[i]?=some r):frE i e r<s.ev.length:=by
 unfold frE;split
 ·have:=(zca7 h).2.2;omega
 ·exact I.rb i r hr
theorem toE_lt {s:Ra} (I:Ic s) {i:Nat} {e:Evt} {r:Int} (h:s.ev[i]?=some e) (hr:s.rf[i]?=some r):toE i e r<s.ev.length:=by
 unfold toE;split
 ·exact I.rb i r hr
 ·have:=(zca7 h).2.2;omega
theorem wrE_k {e:Evt} (h:wrE e=true) (h4:e.kind≠4):e.kind=2∨e.kind=5:=by
 simp only[wrE,Bool.and_eq_true,Bool.or_eq_true,decide_eq_true_eq]at h;omega
theorem rdE_k {e:Evt} (h:rdE' e=true):rdsK e.kind=true:=by
 simp only[rdE',Bool.and_eq_true]at h;exact h.2
theorem app_at {α:Type} {l:List α} {x y:α} {i:Nat} (h:(l++[x])[i]?=some y):l[i]?=some y∨(i=l.length∧y=x):=by
 by_cases hi:i<l.length
 ·rw[List.getElem?_append_left hi]at h;exact .inl h
 ·have:=(zca7 h).2.2;rw[List.length_append]at this;have hi:i=l.length:=by simp at this;omega
  subst hi;rw[List.getElem?_append_right (Nat.le_refl _),Nat.sub_self]at h;exact .inr ⟨rfl,by simpa using h.symm⟩
theorem ic_go {p:Pg} {bd:Int} {s s':Ra} {e:Evt} {r ag:Int} {k:Nat} {W w':List Int} {f:Nat→Nat} (C:Cof p bd s s' e r ag k W w' f) (I:Ic s):Ic s':=by
 obtain⟨t,ht,hid⟩:=C.hk;have hfk:fndT s.th ag=some k:=by rw[←hid];exact fndT_srt C.V.so ht
 have hfk':fndT s'.th ag=some (f k):=by rw[←hid];exact C.T.fn k t ht
 have hown:gt2 s'.vs (f k)=w':=ztd7 C.T.own;have hkl:=(zca7 ht).2.2;have gW:Gd s.ms W:=by rw[←C.hW];exact C.V.gdk hkl
 have hrl:=I.rl
 have hml:s'.ms.length=s.ms.length:=by
  rcases C.wr with⟨h,-⟩|⟨o,pl,vw,-,-,h,-⟩
  ·rw[h]
  ·rw[h,List.length_set]
 have hel:s'.ev.length=s.ev.length+1:=by rw[C.ev,List.length_append];rfl
 have yb:∀(j:Nat) (w:List Int),s.vs[j]?=some w→∀(o:Nat) y,w[o]?=some y→y<s.ev.length:=by
  intro j w hw o y hy;have g:=gdV_gd (C.V.gv w (List.mem_of_getElem? hw));have h4:=g.pos o y hy;unfold posM at h4;split at h4
  ·omega
  ·rw[ixM_fx]at h4;cases hf:fx Msg.ev (gt2 s.ms o) y with
   |none=>rw[hf]at h4;simp at h4
   |some j=>
    obtain⟨b,b1,b2⟩:=fx_some hf;have:=C.V.fr o b (List.mem_of_getElem? b1);omega
 have hWv:s.vs[k]?=some W:=by rw[←C.hW];exact zac7 (by rw[C.V.hvl];exact hkl)
 have newob:aeE e→∃o:Nat,e.obj=o∧o<s.ms.length:=fun h=>by
  rcases h with h|h
  ·obtain⟨o,o1,o2,-⟩:=C.rd (rdE_k h);exact⟨o,o1,o2⟩
  ·rcases C.wr with⟨-,h2,h5⟩|⟨o,pl,vw,o1,o2,-⟩
   ·rcases wrE_k h C.n4 with h|h
    ·exact absurd h h2
    ·exact absurd h h5
   ·exact⟨o,o1,o2⟩
 have newwr:wrE e=true→∀o:Nat,e.obj=o→w'[o]?=some (s.ev.length:Int):=fun h o ho=>by
  rcases C.wr with⟨-,h2,h5⟩|⟨o',pl,vw,o1,o2,-,-,-,h7,-⟩
  ·rcases wrE_k h C.n4 with h|h
   ·exact absurd h h2
   ·exact absurd h h5
  ·have:o'=o:=by omega
   subst this;exact h7
 refine⟨by rw[C.rf,List.length_append,hrl,hel];rfl,fun i q hq=>?_,fun i u hu ha=>?_,fun i u q o hu hq ha ho=>?_,fun i j a b q x o hij ha hq hb hx hA hB hag hoa hob=>?_,fun j b x o hb hx hw h5 ho=>?_⟩
 ·rw[C.rf]at hq;rw[hel];rcases app_at hq with hq|⟨-,rfl⟩
  ·have:=I.rb i q hq;omega
  ·have:=C.rn;omega
 ·rw[C.ev]at hu;rw[hml];rcases app_at hu with hu|⟨-,rfl⟩
  ·exact I.ob i u hu ha
  ·exact newob ha
 ·rw[C.ev]at hu;rw[C.rf]at hq;rcases app_at hu with hu|⟨hi,rfl⟩
  ·have hq:s.rf[i]?=some q:=by
    rcases app_at hq with hq|⟨hi,-⟩
    ·exact hq
    ·have:=(zca7 hu).2.2;omega
   obtain⟨j,h1,h2⟩:=I.vi i u q o hu hq ha ho;obtain⟨v,v1,v2⟩:=fndT_get h1;have hlt:=frE_lt I hu hq;have hjv:=zac7 (show j<s.vs.length by rw[C.V.hvl];exact (zca7 v1).2.2);refine⟨f j,by rw[←v2];exact C.T.fn j v v1,fun y hy=>?_⟩;by_cases hjk:j=k
   ·subst hjk;rw[hown]at hy
    have hol:o<W.length:=by
     rw[gW.len];obtain⟨o',o1,o2⟩:=I.ob i u hu ha;omega
    have hWo:=List.getElem?_eq_getElem hol;have h3:=h2 (W[o]) (by rw[C.hW];exact hWo);have h4:=ms_mono C o hlt (yb j W hWv o _ hWo) h3;exact Nat.le_trans h4 (C.le o _ y hWo hy)
   ·rw[ztd7 (C.T.row j _ hjv hjk)]at hy;exact ms_mono C o hlt (yb j _ hjv o y hy) (h2 y hy)
  ·subst hi
   have hq:q=r:=by
    rcases app_at hq with hq|⟨-,hq⟩
    ·have:=(zca7 hq).2.2;omega
    ·exact hq
   subst hq;refine⟨f k,by rw[C.ea ha];exact hfk',fun y hy=>?_⟩;rw[hown]at hy;unfold frE;by_cases hw:wrE u=true
   ·rw[if_pos hw];rw[newwr hw o ho]at hy;cases hy;exact Nat.le_refl _
   ·rw[if_neg hw];obtain⟨o',o1,o2,o3,o4⟩:=C.rd (rdE_k (ha.resolve_right hw));have:o'=o:=by omega
    subst this;exact o4 y hy
 ·rw[C.ev]at ha hb;rw[C.rf]at hq hx
  have hai:s.ev[i]?=some a:=by
   rcases app_at ha with ha|⟨h1,-⟩
   ·exact ha
   ·have:=(zca7 hb).2.2;rw[List.length_append]at this;simp at this;omega
  have hqi:s.rf[i]?=some q:=by
   rcases app_at hq with hq|⟨h1,-⟩
   ·exact hq
   ·have:=(zca7 hai).2.2;omega
  have hlt:=frE_lt I hai hqi;rcases app_at hb with hb|⟨hj,rfl⟩
  ·have hx:s.rf[j]?=some x:=by
    rcases app_at hx with hx|⟨h1,-⟩
    ·exact hx
    ·have:=(zca7 hb).2.2;omega
   exact ms_mono C o hlt (toE_lt I hb hx) (I.pr i j a b q x o hij hai hqi hb hx hA hB hag hoa hob)
  ·have hx:x=r:=by
    rcases app_at hx with hx|⟨-,hx⟩
    ·have:=(zca7 hx).2.2;omega
    ·exact hx
   subst hx;obtain⟨j',h1,h2⟩:=I.vi i a q o hai hqi hA hoa
   have hk':j'=k:=by
    rw[hag,C.ea hB,hfk]at h1;exact (Option.some.inj h1).symm
   subst hk'
   have hol:o<W.length:=by
    rw[gW.len];obtain⟨o',o1,o2⟩:=newob hB;omega
   have hWo:=List.getElem?_eq_getElem hol;have h3:=h2 (W[o]) (by rw[C.hW];exact hWo);unfold toE;by_cases hr:rdE' b=true
   ·rw[if_pos hr];obtain⟨o',o1,o2,o3,-⟩:=C.rd (rdE_k hr);have:o'=o:=by omega
    subst this;exact ms_mono C o' hlt C.rn (Nat.le_trans h3 (o3 _ hWo))
   ·rw[if_neg hr];have hw:=hB.resolve_left hr;have h4:=ms_mono C o hlt (yb j' W hWv o _ hWo) h3;have h5:=C.le o _ _ hWo (newwr hw o hob);rw[hj];exact Nat.le_trans h4 h5
 ·rw[C.ev]at hb;rw[C.rf]at hx;rcases app_at hb with hb|⟨hj,rfl⟩
  ·have hx:s.rf[j]?=some x:=by
    rcases app_at hx with hx|⟨h1,-⟩
    ·exact hx
    ·have:=(zca7 hb).2.2;omega
   have h1:=I.up j b x o hb hx hw h5 ho;have hjl:=(zca7 hb).2.2;have hxl:=I.rb j x hx;rcases C.wr with⟨h2,-⟩|⟨o',pl,vw,-,h2,h3,h4,h6,-⟩
   ·rw[h2];exact h1
   ·rw[h3];by_cases ho':o=o'
    ·subst ho';rw[gt2_set h2,plM_old (by dsimp only;omega),plM_old (by dsimp only;omega)]
     have hne:plM (gt2 s.ms o) j≠pl+1:=by
      intro he;rw[plM_fx]at he;cases hf:fx Msg.ev (gt2 s.ms o) j with
      |none=>rw[hf]at he;simp at he
      |some m=>
       rw[hf]at he;simp at he;subst he;obtain⟨a,a1,a2⟩:=fx_some hf;exact h6 a b a1 (by rw[a2,Int.toNat_natCast];exact hb) h5
     split<;>split<;>omega
    ·rw[gt2_set_ne ho'];exact h1
  ·have hx:x=r:=by
    rcases app_at hx with hx|⟨-,hx⟩
    ·have:=(zca7 hx).2.2;omega
    ·exact hx
   subst hx hj;rcases C.wr with⟨-,h2,h3⟩|⟨o',pl,vw,h1,h2,h3,h4,h6,h7,h8⟩
   ·exact absurd h5 h3
   ·have:o'=o:=by omega
    subst this;have hxl:=C.rn;have e1:plM (ins (gt2 s.ms o') pl ⟨s.ev.length,b.wr,vw⟩) s.ev.length=pl+1:=plM_new h4 (fun b hb=>by have:=C.V.fr o' b hb;dsimp only;omega);rw[h3,gt2_set h2,e1,plM_old (by dsimp only;omega),h8 h5,if_pos (Nat.le_refl _)]
end Go.Am.E

set_option maxHeartbeats 8000000
namespace Go.Am.E
open Go.Proofs Go.Ex Go.Rc
theorem aeE_q {e:Evt} (h:aeE e):¬Qk e.kind:=fun q=>by
 rcases h with h|h
 ·have:=rdE_k h;rw[q.1]at this;cases this
 ·rcases wrE_k h q.2.2.2 with h|h
  ·exact q.2.1 h
  ·exact q.2.2.1 h
theorem cof_ok {p:Pg} {bd:Int} {n:Nat} {s:Ra} {ag ch:Int} {s':Ra} {e:Evt} (hj:Jr n s) (hn:n≤900) (h:stpR p bd s ag ch=.inr (s',e)):∃r k W w' f,Cof p bd s s' e r ag k W w' f:=by
 obtain⟨k,t,i,S,hr⟩:=stpR_inr h;obtain⟨rfl,rfl⟩:=Prod.mk.inj hr;have hkl:=(zca7 S.th).2.2;have htb:=(hj.sw' hn).sr.tb t (List.mem_of_getElem? S.th);obtain⟨i1,i2,-⟩:=exX_inv (x0R p bd s ag ch k t i) t k rfl hkl;have hid:t.id=ag:=S.id;by_cases h21:i.op=21
 ·obtain⟨c,h1,h2,h3⟩:=stp_sp S h21;have T:=Tvs.of_sp S h2 (newT_id p bd c i.o (reg t i.b));rw[h3]at i1 i2 ⊢;refine⟨-2,k,_,_,_,S.v,by show _++[_]=_;rw[i1];rfl,by show _++[_]=_;rw[i2];rfl,⟨t,S.th,hid⟩,rfl,fun ha=>absurd q16 (aeE_q ha),T,Vle.rfl' _ _,.inl ⟨rfl,(show (16:Int)≠2 by decide),(show (16:Int)≠5 by decide)⟩,fun h=>?_,by omega,(show (16:Int)≠4 by decide)⟩;have h:rdsK 16=true:=h;exact absurd h (by decide)
 ·obtain⟨w',E⟩:=stp_eff S htb h21;have T:=Tvs.of_eff S E;have hev:=stp_evs S htb;generalize exX (x0R p bd s ag ch k t i) t k=z at *
  refine⟨z.rf,k,_,w',id,S.v,by show _++[_]=_;rw[i1];rfl,by show _++[_]=_;rw[i2];rfl,⟨t,S.th,hid⟩,rfl,fun ha=>(hev (aeE_q ha)).2.1,T,E.le,?_,fun h=>?_,?_,E.nk⟩
  ·rcases E.wr with⟨a,-,b,c⟩|⟨o,pl,vw,R⟩
   ·exact .inl ⟨a,b,c⟩
   ·exact .inr ⟨o,pl,vw,R.hob,R.hlt,R.hms,R.hpl,R.hnu,R.hat,R.hup⟩
  ·obtain⟨o,o1,o2,-,o4,o5⟩:=E.rd h;exact⟨o,o1,o2,o4,o5⟩
  ·cases hd:rdsK z.e.kind
   ·rw[E.nr hd];omega
   ·obtain⟨o,o1,o2,o3,-⟩:=E.rd hd;rcases o3 with⟨h,-⟩|⟨m,hm,h,-⟩
    ·omega
    ·have:=S.v.fr o m hm;omega
theorem ic_st0 (p:Pg) (bd:Int):Ic (st0 p bd):=by
 have h0:∀{i:Nat} {e:Evt},(st0 p bd).ev[i]?=some e→False:=fun {i e} h=>by
  have h:([]:List Evt)[i]?=some e:=h;simp at h
 refine⟨rfl,fun i r h=>?_,fun i e h=>(h0 h).elim,fun i e r o h=>(h0 h).elim,fun i j a b q r o _ h=>(h0 h).elim,fun j b r o h=>(h0 h).elim⟩;have h:([]:List Int)[i]?=some r:=h;simp at h
theorem runR_ic {p:Pg} {bd:Int}:∀{l:List (Int×Int)} {s s':Ra} {n:Nat},runR p bd s l=.inr s'→Jr n s→n+l.length≤900→Ic s→Ic s'∧Jr (n+l.length) s'
 |[],s,s',n,h,hj,hn,I=>by
  cases h;exact⟨I,hj⟩
 |k::r,s,s',n,h,hj,hn,I=>by
  simp only[runR]at h;simp only[List.length_cons]at hn;cases hs:stpR p bd s k.1 k.2 with
  |inl e=>rw[hs]at h;cases h
  |inr x=>
   obtain⟨s1,e⟩:=x;rw[hs]at h;dsimp only at h;obtain⟨q,k',W,w',f,C⟩:=cof_ok hj (by omega) hs;obtain⟨a1,a2⟩:=runR_ic h (hj.stp (by omega) hs) (by omega) (ic_go C I);exact⟨a1,by rw[show n+(k::r).length=n+1+r.length by simp;omega];exact a2⟩
end Go.Am.E

set_option maxRecDepth 10000
set_option maxHeartbeats 16000000
namespace Go.Am.E
open Go.Proofs Go.Ex Go.Rc
attribute [local simp] zrf7 zof7 zpf7 zqf7 zsf7 zhc7 zic7 zgc7 pairK ztc7 chgOf slim sameAt meets updT
abbrev E6 (s:Ra) (j:Nat):Env:=[(39,.dat (.sl (s.ev.map ED))),(40,.dat (N s.ev.length)),(41,.dat (N j))]
abbrev X6 (s:Ra):zra7:=[((4,0),rbx s),((6,0),G7 s)]
abbrev ebx (e:Evt):TObj:=.plain (.box [.dat (N e.ag),.dat (N e.idx),.dat (N e.kind),.dat (N e.obj),.dat (N e.mux),.dat (N e.ent),.dat (N e.ord),.dat (N e.rd),.dat (N e.wr)])
theorem loop6_0 (s:Ra) (I:Ic s) (j:Nat) (b:Evt) (hb:s.ev[j]?=some b) (hml:∀l∈s.ms,l.length<1000000) (hmx:s.ms.length<1000000) (hel:s.ev.length<1000000) (st:St)
  (hs:hd [3,5,6,7,39,40,41,94,95,96] [3,5,7,39,94] st=some ⟨[(3,.ref ((4,0),0,0) 0),(5,.ref ((6,0),0,0) 0),(6,.dat (N j)),(7,.ref ((8,0),0,0) 0)]++E6 s j++[(94,.dat (.sl ((s.ev.map ED).take j))),(95,.dat (N j)),(96,.dat (N 0))],X6 s++[((8,0),ebx b)]⟩):
  Ev (zga7 (exec K l6_0) st) (fun q=>q.1=.exit 2∧hd [3,5,39,40,41] [] q.2=some ⟨[(3,.ref ((4,0),0,0) 0),(5,.ref ((6,0),0,0) 0)]++E6 s j,X6 s++[((8,0),ebx b)]⟩):=by
 have hjl:=(zca7 hb).2.2;have hr:s.rf[j]?=some (s.rf[j]'(by rw[I.rl];exact hjl)):=List.getElem?_eq_getElem _;generalize s.rf[j]'(by rw[I.rl];exact hjl)=r at *
 obtain⟨r1,r2,r3⟩:=zca7 hr;have jx:Ix j:=by unfold Ix;omega
 have hb24:=run24 b;have hb25:=run25 b;have hlen:(s.ev.take j).length=j:=by rw[List.length_take];omega
 refine (zhb7 (live:=[3,5,6,7,39,40,41,94,95,96]) (drop:=[3,5,7,39,94]) (s.ev.take j) (by omega) (fun k=>⟨[(3,.ref ((4,0),0,0) 0),(5,.ref ((6,0),0,0) 0),(6,.dat (N j)),(7,.ref ((8,0),0,0) 0)]++E6 s j++[(94,.dat (.sl ((s.ev.map ED).take j))),(95,.dat (N j)),(96,.dat (N k))],X6 s++[((8,0),ebx b)]⟩)
  (fun _ q=>q.1=.exit 2∧hd [3,5,39,40,41] [] q.2=some ⟨[(3,.ref ((4,0),0,0) 0),(5,.ref ((6,0),0,0) 0)]++E6 s j,X6 s++[((8,0),ebx b)]⟩)
  (fun i a s' g1 g2 g3 ix hs=>?_) (fun s' hs=>?_) _ hs)
 ·rw[hlen]at g3;have hij:i<j:=by omega
  have ha:s.ev[i]?=some a:=by rwa [List.getElem?_take,if_pos hij]at g1
  obtain⟨a1,a2,a3⟩:=zca7 ha;have hq:s.rf[i]?=some (s.rf[i]'(by rw[I.rl];exact a3)):=List.getElem?_eq_getElem _;generalize s.rf[i]'(by rw[I.rl];exact a3)=q at *
  obtain⟨q1,q2,q3⟩:=zca7 hq;have ha24:=run24 a;have ha25:=run25 a;have hpr:=fun o hA hB hag hoa hob=>I.pr i j a b q r o hij ha hq hb hr hA hB hag hoa hob
  have hob:=fun h=>I.ob i a ha h
  unfold aeE frE toE at hpr;unfold aeE at hob;generalize wrE a=wa at *
  generalize rdE' a=ra at *
  generalize wrE b=wb at *
  generalize rdE' b=rb at *
  obtain⟨aag,aidx,akind,aobj,amux,aent,aord,ard,awr⟩:=a;obtain⟨bag,bidx,bkind,bobj,bmux,bent,bord,brd,bwr⟩:=b;dsimp only at hpr hob;by_cases c1:aag=bag;rotate_left
  ·simp[hs,ha,a1,a2,a3,hij,g3,ix,jx,hjl,c1]
  subst c1;by_cases c2:aobj=bobj;rotate_left
  ·simp[hs,ha,a1,a2,a3,hij,g3,ix,jx,hjl,c2]
  subst c2;by_cases c3:ra=false∧wa=false
  ·obtain⟨rfl,rfl⟩:=c3;simp[hs,ha,a1,a2,a3,hij,g3,ix,jx,hjl,ha24,ha25]
  by_cases c4:rb=false∧wb=false
  ·obtain⟨rfl,rfl⟩:=c4;cases ra
   ·cases wa
    ·exact absurd ⟨rfl,rfl⟩ c3
    ·simp[hs,ha,a1,a2,a3,hij,g3,ix,jx,hjl,ha24,ha25,hb24,hb25]
   ·simp[hs,ha,a1,a2,a3,hij,g3,ix,jx,hjl,ha24,ha25,hb24,hb25]
  have hA:ra=true∨wa=true:=by
   cases ra
   ·cases wa
    ·exact absurd ⟨rfl,rfl⟩ c3
    ·exact .inr rfl
   ·exact .inl rfl
  have hB:rb=true∨wb=true:=by
   cases rb
   ·cases wb
    ·exact absurd ⟨rfl,rfl⟩ c4
    ·exact .inr rfl
   ·exact .inl rfl
  obtain⟨o,rfl,o2⟩:=hob hA;have hpr:=hpr o hA hB rfl rfl rfl;have hlm:=zac7 o2;have hll:=hml _ (List.mem_of_getElem? hlm);have h26:=run26 _ hll;obtain⟨l1,l2,l3⟩:=zca7 hlm;have ox:Ix o:=by unfold Ix;omega
  cases wa<;>cases rb
  ·have hra:ra=true:=by simpa using hA
   have hwb:wb=true:=by simpa using hB
   subst hra hwb;simp at hpr;have hn:¬((plM (gt2 s.ms o) (j:Int):Nat):Int)<(plM (gt2 s.ms o) q:Nat):=by omega
   simp[hs,ha,a1,a2,a3,hij,g3,ix,jx,hjl,ha24,ha25,hb24,hb25,hq,q1,q2,q3,hr,r1,r2,r3,hlm,l1,l2,l3,ox,h26,hn]
  ·have hra:ra=true:=by simpa using hA
   subst hra;simp at hpr;have hn:¬((plM (gt2 s.ms o) r:Nat):Int)<(plM (gt2 s.ms o) q:Nat):=by omega
   simp[hs,ha,a1,a2,a3,hij,g3,ix,jx,hjl,ha24,ha25,hb24,hb25,hq,q1,q2,q3,hr,r1,r2,r3,hlm,l1,l2,l3,ox,h26,hn]
  ·have hwb:wb=true:=by simpa using hB
   subst hwb;simp at hpr;have hn:¬((plM (gt2 s.ms o) (j:Int):Nat):Int)<(plM (gt2 s.ms o) (i:Int):Nat):=by omega
   cases ra<;>simp[hs,ha,a1,a2,a3,hij,g3,ix,jx,hjl,ha24,ha25,hb24,hb25,hq,q1,q2,q3,hr,r1,r2,r3,hlm,l1,l2,l3,ox,h26,hn]
  ·simp at hpr;have hn:¬((plM (gt2 s.ms o) r:Nat):Int)<(plM (gt2 s.ms o) (i:Int):Nat):=by omega
   cases ra<;>simp[hs,ha,a1,a2,a3,hij,g3,ix,jx,hjl,ha24,ha25,hb24,hb25,hq,q1,q2,q3,hr,r1,r2,r3,hlm,l1,l2,l3,ox,h26,hn]
 ·simp[hs,hlen]
end Go.Am.E

set_option maxRecDepth 10000
set_option maxHeartbeats 16000000
namespace Go.Am.E
open Go.Proofs Go.Ex Go.Rc
attribute [local simp] zrf7 zof7 zpf7 zqf7 zsf7 zhc7 zic7 zgc7 pairK ztc7 chgOf slim sameAt meets updT
theorem loop6_1 (s:Ra) (I:Ic s) (hml:∀l∈s.ms,l.length<1000000) (hmx:s.ms.length<1000000) (hel:s.ev.length<1000000) (st:St)
  (hs:hd [3,5,39,40,41] [3,5,39] st=some ⟨[(3,.ref ((4,0),0,0) 0),(5,.ref ((6,0),0,0) 0)]++E6 s 0,X6 s⟩):
  Ev (zga7 (exec K l6_1) st) (fun q=>q.1=.exit 0∧∃os,hd [] [] q.2=some ⟨[],os⟩):=by
 refine (zhb7 (live:=[3,5,39,40,41]) (drop:=[3,5,39]) s.ev (by omega) (fun k=>⟨[(3,.ref ((4,0),0,0) 0),(5,.ref ((6,0),0,0) 0)]++E6 s k,X6 s⟩)
  (fun _ q=>q.1=.exit 0∧∃os,hd [] [] q.2=some ⟨[],os⟩)
  (fun j b s' g1 g2 g3 ix hs=>?_) (fun s' hs=>?_) _ hs)
 ·have hjl:=(zca7 g1).2.2;have hr:s.rf[j]?=some (s.rf[j]'(by rw[I.rl];exact hjl)):=List.getElem?_eq_getElem _;generalize s.rf[j]'(by rw[I.rl];exact hjl)=r at *
  obtain⟨r1,r2,r3⟩:=zca7 hr;have hb24:=run24 b;have hb25:=run25 b;have hjl':(j:Int)≤s.ev.length:=by omega
  have hjn:j≤s.ev.length:=by omega
  have hlp:=loop6_0 s I j b g1 hml hmx hel;have hob:=fun h=>I.ob j b g1 h
  have hup:=fun o=>I.up j b r o g1 hr
  have hkW:=fun h=>wrE_k (e:=b) h
  unfold aeE at hob;generalize wrE b=wb at *
  generalize rdE' b=rb at *
  obtain⟨bag,bidx,bkind,bobj,bmux,bent,bord,brd,bwr⟩:=b;dsimp only at hob hup hkW;by_cases c0:rb=false∧wb=false
  ·obtain⟨rfl,rfl⟩:=c0;simp[hs,g1,g2,g3,ix,hb24,hb25,hjl',hjn];simp only[zaa7];refine (hlp _ (by simp)).mono ?_;rintro⟨y,s'⟩ ⟨rfl,hq⟩;dsimp only at hq;simp[hq,ix]
  ·obtain⟨o,rfl,o2⟩:=hob (by
    cases rb
    ·cases wb
     ·exact absurd ⟨rfl,rfl⟩ c0
     ·exact .inr rfl
    ·exact .inl rfl)
   have hlm:=zac7 o2;have hll:=hml _ (List.mem_of_getElem? hlm);have h26:=run26 _ hll;obtain⟨l1,l2,l3⟩:=zca7 hlm;have ox:Ix o:=by unfold Ix;omega
   have n1:¬(s.ms.length:Int)≤o:=by omega
   have fin:∀P:Prop,P→P:=fun _ h=>h
   by_cases c5:wb=true∧bkind=5
   ·obtain⟨rfl,rfl⟩:=c5;have hup:=hup o rfl rfl rfl;have hle:=plM_le (gt2 s.ms o) r;have e5:((plM (gt2 s.ms o) (j:Int):Nat):Int)=(plM (gt2 s.ms o) r:Nat)+1:=by omega
    have wq:IntKind.wrap .i64 (((plM (gt2 s.ms o) r:Nat):Int)+1)=(plM (gt2 s.ms o) r:Nat)+1:=wrap_i64 (by omega) (by omega);cases rb
    all_goals
     simp[hs,g1,g2,g3,ix,hb24,hb25,hjl',hjn,n1,hr,r1,r2,r3,hlm,l1,l2,l3,ox,h26,e5,wq];simp only[zaa7];refine (hlp _ (by simp)).mono ?_;rintro⟨y,s'⟩ ⟨rfl,hq⟩;dsimp only at hq;simp[hq,ix]
   ·cases wb
    ·have hrb:rb=true:=by
      cases rb
      ·exact absurd ⟨rfl,rfl⟩ c0
      ·rfl
     subst hrb;simp[hs,g1,g2,g3,ix,hb24,hb25,hjl',hjn,n1];simp only[zaa7];refine (hlp _ (by simp)).mono ?_;rintro⟨y,s'⟩ ⟨rfl,hq⟩;dsimp only at hq;simp[hq,ix]
    ·have c5:¬bkind=5:=fun h=>c5 ⟨rfl,h⟩
     cases rb
     all_goals
      simp[hs,g1,g2,g3,ix,hb24,hb25,hjl',hjn,n1,c5];simp only[zaa7];refine (hlp _ (by simp)).mono ?_;rintro⟨y,s'⟩ ⟨rfl,hq⟩;dsimp only at hq;simp[hq,ix]
 ·simp[hs]
theorem run6 (p:Pg) (bd:Int) (l:List (Int×Int)):K 6 [.dat (.agg (WDl p bd l))] []=some (.dat (.bool true),[]):=by
 obtain⟨b,h9,hb⟩:=run9 p bd l;have h11:=run11;cases b
 ·refine ce rfl ?_;simp at h9;simp[h9,h11]
 ·obtain⟨hf,hl⟩:=hb rfl;have h27:=run27 p hf bd l (by omega);simp at h9;cases hR:ranR p bd l with
  |inl e=>
   have hne:=ranR_ne hR;rw[hR]at h27;simp[oU]at h27;refine ce rfl ?_;simp[h9,h11,h27,hne]
  |inr s=>
   have hIJ:Ic s∧Jr (0+l.length) s:=by
    unfold ranR at hR;split at hR
    ·cases hR
    rename_i h0;split at hR
    ·cases hR
    exact runR_ic hR (Jr.st0 (by simpa using h0)) (by omega) (ic_st0 p bd)
   obtain⟨I,J⟩:=hIJ;rw[hR]at h27;simp[oU]at h27;have i2:(s.rf.length:Int)=s.ev.length:=by have:=I.rl;omega
   have hlp:=loop6_1 s I (fun r hr=>by have:=J.ml r hr;omega) (by have:=J.ms;omega) (by have:=J.ev;omega);refine ce rfl ?_;simp[h9,h11,h27,i2];simp only[zaa7];refine (hlp _ (by simp)).mono ?_;rintro⟨y,s'⟩ ⟨rfl,os,hq⟩;dsimp only at hq;simp[hq,h11]
end Go.Am.E

namespace Go.Proofs
open Go.Shelf
def TryzL.sort_ren:Go.Shelf.Ren:=⟨fun|5=>236|8=>260|7=>259|19=>278|20=>279|10=>269|11=>270|12=>271|13=>272|14=>273|15=>274|16=>275|17=>276|18=>277|30=>282|31=>283|32=>284|33=>285|34=>286|35=>287|40=>288|n=>n,fun|23=>32|25=>3|3=>3|32=>192|22=>32|0=>0|44=>170|46=>231|4=>4|36=>250|35=>249|41=>61|5=>5|9=>9|53=>258|57=>262|63=>264|64=>195|n=>n,fun|n=>n⟩
theorem TryzL.sort:Go.Proofs.SlLaysM.n5 Tryz.prog TryzL.sort_ren:={
 mixed:=by kernel_rfl
 f5:=⟨Tryz.f236.name,by decide,Tryz.func236.trans (congrArg some (by kernel_rfl))⟩
 f7:=⟨Tryz.f259.name,by decide,Tryz.func259.trans (congrArg some (by kernel_rfl))⟩
 f8:=Tryz.func260.trans (congrArg some (by kernel_rfl))
 f10:=⟨Tryz.f269.name,by decide,Tryz.func269.trans (congrArg some (by kernel_rfl))⟩
 f11:=⟨Tryz.f270.name,by decide,Tryz.func270.trans (congrArg some (by kernel_rfl))⟩
 f12:=⟨Tryz.f271.name,by decide,Tryz.func271.trans (congrArg some (by kernel_rfl))⟩
 f13:=⟨Tryz.f272.name,by decide,Tryz.func272.trans (congrArg some (by kernel_rfl))⟩
 f14:=⟨Tryz.f273.name,by decide,Tryz.func273.trans (congrArg some (by kernel_rfl))⟩
 f15:=⟨Tryz.f274.name,by decide,Tryz.func274.trans (congrArg some (by kernel_rfl))⟩
 f16:=⟨Tryz.f275.name,by decide,Tryz.func275.trans (congrArg some (by kernel_rfl))⟩
 f17:=⟨Tryz.f276.name,by decide,Tryz.func276.trans (congrArg some (by kernel_rfl))⟩
 f18:=⟨Tryz.f277.name,by decide,Tryz.func277.trans (congrArg some (by kernel_rfl))⟩
 f19:=Tryz.func278.trans (congrArg some (by kernel_rfl))
 f20:=Tryz.func279.trans (congrArg some (by kernel_rfl))
 f30:=⟨Tryz.f282.name,by decide,Tryz.func282.trans (congrArg some (by kernel_rfl))⟩
 f31:=Tryz.func283.trans (congrArg some (by kernel_rfl))
 f32:=Tryz.func284.trans (congrArg some (by kernel_rfl))
 f33:=⟨Tryz.f285.name,by decide,Tryz.func285.trans (congrArg some (by kernel_rfl))⟩
 f34:=⟨Tryz.f286.name,by decide,Tryz.func286.trans (congrArg some (by kernel_rfl))⟩
 f35:=⟨Tryz.f287.name,by decide,Tryz.func287.trans (congrArg some (by kernel_rfl))⟩
 f40:=⟨Tryz.f288.name,by decide,Tryz.func288.trans (congrArg some (by kernel_rfl))⟩
 t0:=Tryz.underlying0
 a0:=Tryz.isAgg0
 z0:=Tryz.sizeOf0
 v0:=Tryz.zeroValue0
 t3:=Tryz.underlying3
 a3:=Tryz.isAgg3
 z3:=Tryz.sizeOf3
 v3:=Tryz.zeroValue3
 t4:=Tryz.underlying4
 a4:=Tryz.isAgg4
 z4:=Tryz.sizeOf4
 v4:=Tryz.zeroValue4
 t5:=Tryz.underlying5
 a5:=Tryz.isAgg5
 z5:=Tryz.sizeOf5
 v5:=Tryz.zeroValue5
 t9:=Tryz.underlying9
 a9:=Tryz.isAgg9
 z9:=Tryz.sizeOf9
 v9:=Tryz.zeroValue9
 t22:=Tryz.underlying32
 a22:=Tryz.isAgg32
 z22:=Tryz.sizeOf32
 v22:=Tryz.zeroValue32
 t23:=Tryz.underlying32
 a23:=Tryz.isAgg32
 z23:=Tryz.sizeOf32
 v23:=Tryz.zeroValue32
 t25:=Tryz.underlying3
 a25:=Tryz.isAgg3
 z25:=Tryz.sizeOf3
 v25:=Tryz.zeroValue3
 t32:=Tryz.underlying192
 a32:=Tryz.isAgg192
 z32:=Tryz.sizeOf192
 v32:=Tryz.zeroValue192
 t35:=Tryz.underlying249
 a35:=Tryz.isAgg249
 z35:=Tryz.sizeOf249
 v35:=Tryz.zeroValue249
 t36:=Tryz.underlying250
 a36:=Tryz.isAgg250
 z36:=Tryz.sizeOf250
 v36:=Tryz.zeroValue250
 t41:=Tryz.underlying61
 a41:=Tryz.isAgg61
 z41:=Tryz.sizeOf61
 v41:=Tryz.zeroValue61
 t44:=Tryz.underlying170
 a44:=Tryz.isAgg170
 z44:=Tryz.sizeOf170
 v44:=Tryz.zeroValue170
 t46:=Tryz.underlying231
 a46:=Tryz.isAgg231
 z46:=Tryz.sizeOf231
 v46:=Tryz.zeroValue231
 t53:=Tryz.underlying258
 a53:=Tryz.isAgg258
 z53:=Tryz.sizeOf258
 v53:=Tryz.zeroValue258
 t57:=Tryz.underlying262
 a57:=Tryz.isAgg262
 z57:=Tryz.sizeOf262
 v57:=Tryz.zeroValue262
 t63:=Tryz.underlying264
 a63:=Tryz.isAgg264
 z63:=Tryz.sizeOf264
 v63:=Tryz.zeroValue264
 t64:=Tryz.underlying195
 a64:=Tryz.isAgg195
 z64:=Tryz.sizeOf195
 v64:=Tryz.zeroValue195 }
end Go.Proofs
