/- Parts of the proofs of the statement, joined and made short: V38 V39 V40 V41 V42 V43 V44 V45 ZLay ZL1 XTb YC YTbl. -/
import Derived.Test.YtmoibjjpfemgjaaGreatDoorP22
import Derived.Test.YtmoibjjpfemgjaaGreatDoorP13
import Derived.Test.YtmoibjjpfemgjaaGreatDoorP20
import Derived.Test.YtmoibjjpfemgjaaGreatDoorP9
import Derived.Test.YtmoibjjpfemgjaaGreatDoorP18
import Derived.Test.YtmoibjjpfemgjaaGreatDoorP14
import Derived.Test.YtmoibjjpfemgjaaGreatDoorP15
import Derived.Test.YtmoibjjpfemgjaaGreatDoorP19
import Derived.Shelf.SlGeneric
import Derived.Shelf.SortM.Plain
import Derived.Shelf.SortM.SortNone
import Derived.Ground.SlgmProg
set_option linter.unusedVariables false
set_option linter.unusedSimpArgs false
set_option linter.unusedSectionVars false
set_option maxRecDepth 10000
set_option maxHeartbeats 16000000
namespace Go.Am.E
open Go.Proofs Go.Ex Go.Rc
attribute [local simp] same_d same_r same_p same_n same_c ztc7 zuc7 zsc7 pairK zyc7 chgOf slim sameAt meets updT
structure Mon (p:Pg) (s:Ra) (ag:Int) (s':Ra) (e:Evt) (r:Int) (j:Nat) (w:List Int):Prop where
 ms:s'.ms.length=p.vs.length
 vs:s'.vs.length=s'.th.length
 fo:Fol s s'
 ev:s'.ev=s.ev++[e]
 rl:s.rf.length=s.ev.length
 rf:s'.rf=s.rf++[r]
 fn:fndT s'.th ag=some j
 hw:s'.vs[j]?=some w
 wl:w.length=s'.ms.length
 ob:rdsK e.kind=true∨e.kind=2∨e.kind=5→∃o:Nat,e.obj=o∧o<s'.ms.length∧(e.kind=2∨e.kind=5→w[o]?=some (s.ev.length:Int))∧(rdsK e.kind=true→∀x,w[o]?=some x→plM (gt2 s'.ms o) r≤plM (gt2 s'.ms o) x)
 nk:e.kind≠4
abbrev wbx (p:Pg) (bd:Int) (l:List (Int×Int)):TObj:=.plain (.box ((WDl p bd l).map AVal.dat))
abbrev E5 (l:List (Int×Int)) (k:Nat):Env:=[(1,.ref ((2,0),0,0) 0),(3,.ref ((4,0),0,0) 0),(29,.dat (.sl (l.map NP))),(30,.dat (N l.length)),(31,.dat (N k))]
abbrev X5 (p:Pg) (bd:Int) (l:List (Int×Int)) (s:Ra):zsa7:=[((2,0),wbx p bd l),((4,0),rbx s)]
theorem loop5 (p:Pg) (hf:Fit p) (bd:Int) (l:List (Int×Int)) (hl:l.length<800) (hM:∀n s ag ch s' e,Jr n s→n≤900→stpR p bd s ag ch=.inr (s',e)→∃r j w,Mon p s ag s' e r j w):∀(r:List (Int×Int)) (k:Nat) (s:Ra) (st:St),l.drop k=r→Jr k s→
  hd [1,3,29,30,31] [1,3,29] st=some ⟨E5 l k,X5 p bd l s⟩→Ev (zga7 (exec K l5_0) st) (fun q=>q.1=.exit 0∧∃os,hd [] [] q.2=some ⟨[],os⟩)
 |[],k,s,st,hr,hj,hs=>by
  have hk:l.length≤k:=List.drop_eq_nil_iff.1 hr;have hk':¬(k:Int)<l.length:=by omega
  apply zya7;simp[hs,hk']
 |a::r,k,s,st,hr,hj,hs=>by
  have hk:k<l.length:=Nat.lt_of_not_le fun h=>by rw[List.drop_eq_nil_iff.2 h]at hr;cases hr
  have hk':(k:Int)<l.length:=by omega
  have ha:l[k]?=some a:=by rw[←List.head?_drop,hr];rfl
  have hr':l.drop (k+1)=r:=by rw[←List.tail_drop,hr];rfl
  obtain⟨a1,a2,a3⟩:=zca7 ha;have ix:Ix k:=by unfold Ix;omega
  have h17:=run17 p hf bd s (hj.sw' (by omega)) a.1 a.2;have ih:=loop5 p hf bd l hl hM r (k+1);obtain⟨ag,ch⟩:=a;dsimp only at h17;apply zya7;cases hst:stpR p bd s ag ch with
  |inl e=>
   have hne:=stpR_ne hst;have ih:=fun st=>ih s st hr' hj.up
   rw[hst]at h17;simp[oR,NP]at h17;simp[hs,hk',ha,a1,a2,a3,ix,NP,h17,hne];exact ih _ (by simp)
  |inr x=>
   obtain⟨s',ev⟩:=x;have hj':Jr (k+1) s':=hj.stp (by omega) hst;have ih:=fun st=>ih s' st hr' hj'
   obtain⟨rf,j,w,M⟩:=hM k s ag ch s' ev hj (by omega) hst;rw[hst]at h17;simp[oR,NP]at h17;have hsw:=(hj.sw' (by omega)).sr;have hsw':=(hj'.sw' (by omega)).sr;have h22:=run22 s s' hsw.th hsw'.th hsw'.vs hsw.vsl hsw'.ml M.fo;have h23:=run23 s'.th hsw'.th ag;unfold fndP at h23;rw[M.fn]at h23;simp at h23;have h24:=run24 ev;have h25:=run25 ev;have m1:=M.ms;have m2:=M.vs;have m3:=congrArg List.length M.ev;have m4:=congrArg List.length M.rf;have m5:=M.rl;have m6:s'.ev[s.ev.length]?=some ev:=by rw[M.ev,List.getElem?_append_right (Nat.le_refl _),Nat.sub_self];rfl
   have m7:s'.rf[s.ev.length]?=some rf:=by rw[M.rf,List.getElem?_append_right (by omega),m5,Nat.sub_self];rfl
   simp at m3 m4;obtain⟨e1,e2,e3⟩:=zca7 m6;obtain⟨f1,f2,f3⟩:=zca7 m7;obtain⟨w1,w2,w3⟩:=zca7 M.hw;have jx:Ix j:=by have:=hsw'.vs;unfold Ix;omega
   have nx:Ix s.ev.length:=by have:=hsw.ev;unfold Ix;omega
   have m8:=M.hw;have m9:=M.wl;have mi:(s'.ms.length:Int)=p.vs.length:=by omega
   have vi:(s'.vs.length:Int)=s'.th.length:=by omega
   have ei:(s'.ev.length:Int)=s.ev.length+1:=by omega
   have ri:(s'.rf.length:Int)=s.ev.length+1:=by omega
   have wi:(w.length:Int)=p.vs.length:=by omega
   have we:IntKind.wrap .i64 (s.ev.length:Int)=s.ev.length:=wrap_i64 (by omega) (by have:=hsw.ev;omega);have we1:IntKind.wrap .i64 ((s.ev.length:Int)+1)=s.ev.length+1:=wrap_i64 (by omega) (by have:=hsw.ev;omega);have we2:IntKind.wrap .i64 ((s.ev.length:Int)+1-1)=s.ev.length:=by rw[show (s.ev.length:Int)+1-1=s.ev.length by omega];exact we
   have hkW:wrE ev=true→ev.kind=2∨ev.kind=5:=fun h=>by
    have:=M.nk;simp only[wrE,Bool.and_eq_true,Bool.or_eq_true,decide_eq_true_eq]at h;omega
   have hkR:rdE' ev=true→rdsK ev.kind=true:=fun h=>by
    simp only[rdE',Bool.and_eq_true]at h;exact h.2
   have mob:=M.ob;by_cases hWR:wrE ev=false∧rdE' ev=false
   ·rw[hWR.1]at h24;rw[hWR.2]at h25;obtain⟨eag,eidx,ekind,eobj,emux,eent,eord,erd,ewr⟩:=ev;simp[hs,hk',ha,a1,a2,a3,ix,NP,h17,m1,m2,h22,h23,mi,vi,ei,ri,wi,we,we1,we2,e1,e2,e3,f1,f2,f3,w1,w2,w3,m6,m7,m8,m9,jx,nx,h24,h25];exact ih _ (by simp)
   ·obtain⟨o,o1,o2,o3,o4⟩:=mob (by
     cases hW:wrE ev
     ·cases hR:rdE' ev
      ·exact absurd ⟨hW,hR⟩ hWR
      ·exact .inl (hkR hR)
     ·exact .inr (hkW hW))
    have hlm:=zec7 o2;have hll:=hsw'.ml _ (List.mem_of_getElem? hlm);obtain⟨y,hy⟩:∃y,w[o]?=some y:=⟨_,List.getElem?_eq_getElem (show o<w.length by omega)⟩;have h26:=run26 _ hll y;have h26':=run26 _ hll rf;obtain⟨l1,l2,l3⟩:=zca7 hlm;obtain⟨y1,y2,y3⟩:=zca7 hy;have ox:Ix o:=by have:=hsw'.ms;unfold Ix;omega
    have oi:(o:Int)<p.vs.length:=by omega
    have oi':¬(p.vs.length:Int)≤o:=by omega
    have oms:o<p.vs.length:=by omega
    have oin:o<s'.ms.length:=by omega
    have cW:wrE ev=true→y=s.ev.length:=fun h=>by
     have:=o3 (hkW h);rw[hy]at this;exact Option.some.inj this
    have cR:rdE' ev=true→¬((plM (gt2 s'.ms o) y:Nat):Int)<(plM (gt2 s'.ms o) rf:Nat):=fun h=>by
     have:=o4 (hkR h) y hy;omega
    generalize plM (gt2 s'.ms o) y=P1 at *
    generalize plM (gt2 s'.ms o) rf=P2 at *
    generalize wrE ev=W at *
    generalize rdE' ev=R at *
    obtain⟨eag,eidx,ekind,eobj,emux,eent,eord,erd,ewr⟩:=ev;dsimp only at o1;subst o1;cases W<;>cases R
    ·exact absurd ⟨rfl,rfl⟩ hWR
    ·have cR:=cR rfl;simp[hs,hk',ha,a1,a2,a3,ix,NP,h17,m1,m2,h22,h23,mi,vi,ei,ri,wi,we,we1,we2,e1,e2,e3,f1,f2,f3,w1,w2,w3,m6,m7,m8,m9,jx,nx,h24,h25,h26,h26',hlm,l1,l2,l3,hy,y1,y2,y3,ox,oi,oi',oms,oin,cR];exact ih _ (by simp)
    ·have cW:=cW rfl;simp[hs,hk',ha,a1,a2,a3,ix,NP,h17,m1,m2,h22,h23,mi,vi,ei,ri,wi,we,we1,we2,e1,e2,e3,f1,f2,f3,w1,w2,w3,m6,m7,m8,m9,jx,nx,h24,h25,h26,h26',hlm,l1,l2,l3,hy,y1,y2,y3,ox,oi,oi',oms,oin,cW];exact ih _ (by simp)
    ·have cR:=cR rfl;obtain rfl:=cW rfl;simp[hs,hk',ha,a1,a2,a3,ix,NP,h17,m1,m2,h22,h23,mi,vi,ei,ri,wi,we,we1,we2,e1,e2,e3,f1,f2,f3,w1,w2,w3,m6,m7,m8,m9,jx,nx,h24,h25,h26,h26',hlm,l1,l2,l3,hy,y1,y2,y3,ox,oi,oi',oms,oin,cR];exact ih _ (by simp)
end Go.Am.E

set_option maxHeartbeats 4000000
namespace Go.Am.E
open Go.Proofs Go.Ex Go.Rc
def fx {α:Type} (f:α→Int):List α→Int→Option Nat
 |[],_=>none
 |a::r,e=>if f a=e then some 0 else (fx f r e).map (·+1)
theorem ixM_fx (e:Int):∀l:List Msg,ixM e l=fx Msg.ev l e
 |[]=>rfl
 |m::r=>by simp only[ixM,fx,ixM_fx e r]
theorem fndT_fx (e:Int):∀l:List Th,fndT l e=fx Th.id l e
 |[]=>rfl
 |m::r=>by simp only[fndT,fx,fndT_fx e r]
theorem fx_map {α:Type} {f:α→Int} {l l':List α} (h:l.map f=l'.map f) (e:Int):fx f l e=fx f l' e:=by
 induction l generalizing l' with
 |nil=>cases l' with
  |nil=>rfl
  |cons b r=>cases h
 |cons a r ih=>cases l' with
  |nil=>cases h
  |cons b r'=>
   simp only[List.map_cons,List.cons.injEq]at h;simp only[fx,h.1,ih h.2]
theorem fx_some {α:Type} {f:α→Int} {l:List α} {e:Int} {k:Nat} (h:fx f l e=some k):∃a,l[k]?=some a∧f a=e:=by
 induction l generalizing k with
 |nil=>cases h
 |cons a r ih=>
  simp only[fx]at h;split at h
  ·rename_i h1;cases h;exact⟨a,rfl,h1⟩
  ·obtain⟨j,h1,h2⟩:=Option.map_eq_some_iff.1 h;subst h2;obtain⟨b,b1,b2⟩:=ih h1;exact⟨b,by simpa using b1,b2⟩
theorem fx_none {α:Type} {f:α→Int} {l:List α} {e:Int}:fx f l e=none↔∀a∈l,f a≠e:=by
 induction l with
 |nil=>simp[fx]
 |cons a r ih=>
  simp only[fx];by_cases h:f a=e
  ·simp[h]
  ·simp[h,ih]
theorem fx_get {α:Type} {f:α→Int} {l:List α} {k:Nat} {a:α} (h:l[k]?=some a) (hn:∀i b,i<k→l[i]?=some b→f b≠f a):fx f l (f a)=some k:=by
 induction l generalizing k with
 |nil=>simp at h
 |cons b r ih=>
  cases k with
  |zero=>simp at h;subst h;simp[fx]
  |succ k=>
   have h0:=hn 0 b (by omega) rfl;simp only[fx,if_neg h0];rw[ih (by simpa using h) (fun i c hi hc=>hn (i+1) c (by omega) (by simpa using hc))];rfl
theorem fx_ins_old {α:Type} {f:α→Int} {a:α} {e:Int} (h:f a≠e):∀(l:List α) (p:Nat),fx f (ins l p a) e=(fx f l e).map fun k=>if k<p then k else k+1
 |[],p=>by simp[ins,fx,h]
 |b::r,0=>by
  show fx f (a::b::r) e=_
  rw[fx,if_neg h];simp
 |b::r,p+1=>by
  have ih:=fx_ins_old h r p
  show fx f (b::ins r p a) e=_
  simp only[fx];split
  ·simp
  ·rw[ih];cases fx f r e with
   |none=>rfl
   |some k=>
    simp only[Option.map_some,Option.some.injEq];by_cases hk:k<p
    ·simp[hk]
    ·simp[hk]
theorem fx_ins_new {α:Type} {f:α→Int} {a:α}:∀{l:List α} {p:Nat},p≤l.length→(∀b∈l,f b≠f a)→fx f (ins l p a) (f a)=some p
 |l,0,_,_=>by
  show fx f (a::l) (f a)=_
  simp[fx]
 |[],p+1,h,_=>by simp at h
 |b::r,p+1,h,hn=>by
  show fx f (b::ins r p a) (f a)=_
  have h0:=hn b (by simp);simp only[fx,if_neg h0];rw[fx_ins_new (by simpa using h) (fun c hc=>hn c (by simp[hc]))];rfl
theorem ins_old {α:Type} (a:α):∀(l:List α) (p i:Nat),p≤l.length→(ins l p a)[if i<p then i else i+1]?=l[i]?
 |l,0,i,_=>by simp[ins]
 |[],p+1,i,h=>by simp at h
 |b::r,p+1,i,h=>by
  show (b::ins r p a)[_]?=_
  cases i with
  |zero=>simp
  |succ i=>
   have:=ins_old a r p i (by simpa using h);by_cases hi:i<p
   ·rw[if_pos hi]at this;simp[hi,this]
   ·rw[if_neg hi]at this;simp[hi,this]
theorem plM_fx (l:List Msg) (e:Int):plM l e=match fx Msg.ev l e with|some k=>k+1|none=>0:=by unfold plM;rw[ixM_fx];cases fx Msg.ev l e<;>rfl
theorem plM_old {l:List Msg} {p:Nat} {m:Msg} {e:Int} (h:m.ev≠e):plM (ins l p m) e=if plM l e≤p then plM l e else plM l e+1:=by
 rw[plM_fx,plM_fx,fx_ins_old h];cases fx Msg.ev l e with
 |none=>simp
 |some k=>
  simp only[Option.map_some];by_cases hk:k<p
  ·simp[hk];omega
  ·simp[hk];omega
theorem plM_new {l:List Msg} {p:Nat} {m:Msg} (hp:p≤l.length) (h:∀b∈l,b.ev≠m.ev):plM (ins l p m) m.ev=p+1:=by
 rw[plM_fx,fx_ins_new hp h]
theorem pos_pl {l:List Msg} (hl:∀m∈l,0≤m.ev) {e:Int} (h:0≤posM l e):posM l e=plM l e:=by
 unfold posM at h ⊢;rw[plM_fx,ixM_fx]at *
 split
 ·rename_i he;rw[fx_none.2 (fun a ha=>by have:=hl a ha;omega)];rfl
 ·rename_i he;rw[if_neg he]at h;cases hx:fx Msg.ev l e with
  |none=>rw[hx]at h;simp at h
  |some k=>simp
structure Gd (ms:List (List Msg)) (v:List Int):Prop where
 len:v.length=ms.length
 pos:∀d x,v[d]?=some x→0≤posM (gt2 ms d) x
theorem gdV_gd {s:Ra} {v:List Int} (h:gdV s v=true):Gd s.ms v:=by
 refine⟨gdV_len h,fun d x hx=>?_⟩;have:=gdV_pos h (x:=d) (by have:=(zca7 hx).2.2;have:=gdV_len h;omega);rw[hx]at this;exact this
def Vle (ms:List (List Msg)) (w w':List Int):Prop:=∀d x y,w[d]?=some x→w'[d]?=some y→plM (gt2 ms d) x≤plM (gt2 ms d) y
theorem Vle.rfl' (ms:List (List Msg)) (w:List Int):Vle ms w w:=fun d x y h1 h2=>by
 rw[h1]at h2;cases h2;exact Nat.le_refl _
def Ev0 (ms:List (List Msg)):Prop:=∀d,∀m∈gt2 ms d,0≤m.ev
theorem jn_gd {ms:List (List Msg)} {v o:List Int} (hv:Gd ms v) (ho:Gd ms o):Gd ms (jnV ms v o 0):=by
 refine⟨by rw[zcb7];exact hv.len,fun d x hx=>?_⟩;have hd:=(zca7 hx).2.2;rw[zcb7]at hd;have h1:=List.getElem?_eq_getElem hd;have h2:=List.getElem?_eq_getElem (show d<o.length by rw[ho.len,←hv.len];exact hd);have hj:=jnV_get ms v o 0 d _ _ h1 h2;rw[hj]at hx;cases hx;rw[Nat.zero_add];split
 ·exact ho.pos d _ h2
 ·exact hv.pos d _ h1
theorem jn_le {ms:List (List Msg)} {v o:List Int} (h0:Ev0 ms) (hv:Gd ms v) (ho:Gd ms o):Vle ms v (jnV ms v o 0):=by
 intro d x y hx hy;have hd:=(zca7 hx).2.2;have h2:=List.getElem?_eq_getElem (show d<o.length by rw[ho.len,←hv.len];exact hd);have hj:=jnV_get ms v o 0 d _ _ hx h2;rw[hj]at hy;cases hy;rw[Nat.zero_add];have p1:=pos_pl (h0 d) (hv.pos d _ hx);have p2:=pos_pl (h0 d) (ho.pos d _ h2);split
 ·omega
 ·exact Nat.le_refl _
theorem Vle.trans {ms:List (List Msg)} {a b c:List Int} (h1:Vle ms a b) (h2:Vle ms b c) (hl:a.length=b.length):Vle ms a c:=fun d x y hx hy=>by
 have hb:=List.getElem?_eq_getElem (show d<b.length by rw[←hl];exact (zca7 hx).2.2);exact Nat.le_trans (h1 d x _ hx hb) (h2 d _ y hb hy)
end Go.Am.E

set_option maxHeartbeats 8000000
namespace Go.Am.E
open Go.Proofs Go.Ex Go.Rc
def Rdf (p:Pg) (s:Ra) (o:Nat) (r d:Int):Prop:=(r = -1∧d=((p.vs[o]?).map (·.2)).getD 0)∨∃m∈gt2 s.ms o,r=m.ev∧d=m.val
structure Rdo (p:Pg) (s:Ra) (o:Nat) (W:List Int) (c:Nat) (w':List Int) (r d:Int):Prop where
 gd:Gd s.ms w'
 le:Vle s.ms W w'
 rf:Rdf p s o r d
 pl:plM (gt2 s.ms o) r=c
 up:∀y,w'[o]?=some y→c≤plM (gt2 s.ms o) y
def Nup (s:Ra) (o pl:Nat):Prop:=∀m e,(gt2 s.ms o)[pl]?=some m→s.ev[m.ev.toNat]?=some e→e.kind≠5
structure Afd (s:Ra) (o:Nat) (W:List Int):Prop where
 lt:o<s.ms.length
 e0:Ev0 s.ms
 ds:∀(i j:Nat) (a b:Msg),(gt2 s.ms o)[i]?=some a→(gt2 s.ms o)[j]?=some b→i<j→a.ev≠b.ev
 gw:Gd s.ms W
 gm:∀m∈gt2 s.ms o,Gd s.ms m.vw
theorem gd_set {ms:List (List Msg)} {w:List Int} (h:Gd ms w) {o:Nat} {e:Int} (he:0≤posM (gt2 ms o) e):Gd ms (w.set o e):=by
 refine⟨by simpa using h.len,fun d x hx=>?_⟩;by_cases hd:d=o
 ·subst hd;have hl:=(zca7 hx).2.2;rw[List.length_set]at hl;rw[List.getElem?_set_self hl]at hx;cases hx;exact he
 ·rw[List.getElem?_set_ne (Ne.symm hd)]at hx;exact h.pos d x hx
theorem le_set {ms:List (List Msg)} {w:List Int} {o:Nat} {e:Int} (he:∀x,w[o]?=some x→plM (gt2 ms o) x≤plM (gt2 ms o) e):Vle ms w (w.set o e):=by
 intro d x y hx hy;by_cases hd:d=o
 ·subst hd;rw[List.getElem?_set_self (zca7 hx).2.2]at hy;cases hy;exact he x hx
 ·rw[List.getElem?_set_ne (Ne.symm hd),hx]at hy;cases hy;exact Nat.le_refl _
def rdV (x:Stq) (o:Nat) (W:List Int) (c:Nat):List Int:=match c with
 |0=>W.set o (-1)
 |c+1=>match (gt2 x.s.ms o)[c]? with
  |none=>W
  |some m=>if x.e.ord=2 then jnV x.s.ms (W.set o m.ev) m.vw 0 else W.set o m.ev
theorem rd_do {x:Stq} {k o c:Nat} {W:List Int} (h:Afd x.s o W) (hc:c≤(gt2 x.s.ms o).length) (hfl:∀y,W[o]?=some y→plM (gt2 x.s.ms o) y≤c):
  ∃r d,rdX x k o W c={ setV x k (rdV x o W c) with e:={ x.e with rd:=d },rf:=r }∧Rdo x.p x.s o W c (rdV x o W c) r d:=by
 have hol:o<W.length:=by rw[h.gw.len];exact h.lt
 cases c with
 |zero=>
  have p0:posM (gt2 x.s.ms o) (-1)=0:=rfl;have q0:plM (gt2 x.s.ms o) (-1)=0:=by have:=pos_pl (h.e0 o) (e:=-1) (by rw[p0];exact Int.le_refl _);omega
  exact⟨_,_,rfl,gd_set h.gw (by rw[p0];exact Int.le_refl _),le_set fun y hy=>by have:=hfl y hy;omega,.inl ⟨rfl,rfl⟩,q0,fun _ _=>Nat.zero_le _⟩
 |succ c=>
  obtain⟨m,hm⟩:∃m,(gt2 x.s.ms o)[c]?=some m:=⟨_,List.getElem?_eq_getElem (show c<(gt2 x.s.ms o).length by omega)⟩;have hmm:=List.mem_of_getElem? hm;have hix:fx Msg.ev (gt2 x.s.ms o) m.ev=some c:=fx_get hm fun i b hi hb=>h.ds i c b m hb hm hi
  have q1:plM (gt2 x.s.ms o) m.ev=c+1:=by rw[plM_fx,hix]
  have p1:0≤posM (gt2 x.s.ms o) m.ev:=by
   unfold posM;split
   ·exact Int.le_refl _
   ·rw[ixM_fx,hix];dsimp only;omega
  have g1:=gd_set h.gw p1;have l1:Vle x.s.ms W (W.set o m.ev):=le_set fun y hy=>by have:=hfl y hy;omega
  have e:rdX x k o W (c+1)=rd1 x k o W m:=by simp[rdX,hm]
  rw[e];by_cases ho:x.e.ord=2
  ·have eV:rdV x o W (c+1)=jnV x.s.ms (W.set o m.ev) m.vw 0:=by simp[rdV,hm,ho]
   rw[eV];refine⟨m.ev,m.val,by simp[rd1,ho],jn_gd g1 (h.gm m hmm),l1.trans (jn_le h.e0 g1 (h.gm m hmm)) (by simp),.inr ⟨m,hmm,rfl,rfl⟩,q1,fun y hy=>?_⟩;have:=jn_le h.e0 g1 (h.gm m hmm) o m.ev y (List.getElem?_set_self hol) hy;omega
  ·have eV:rdV x o W (c+1)=W.set o m.ev:=by simp[rdV,hm,ho]
   rw[eV];refine⟨m.ev,m.val,by simp[rd1,ho],g1,l1,.inr ⟨m,hmm,rfl,rfl⟩,q1,fun y hy=>?_⟩;rw[List.getElem?_set_self hol]at hy;cases hy;omega
theorem up_do {x:Stq} {k o c:Nat} {W:List Int} (v:Int) (h:Afd x.s o W) (hc:c≤(gt2 x.s.ms o).length) (hfl:∀y,W[o]?=some y→plM (gt2 x.s.ms o) y≤c):
  ∃w' r d vw,Rdo x.p x.s o W c w' r d∧(upX x k o W c v).s={ x.s with ms:=x.s.ms.set o (ins (gt2 x.s.ms o) c ⟨x.s.ev.length,v,vw⟩),mo:=x.s.mo.set o (ins (gt2 x.s.mo o) c x.s.ev.length),vs:=x.s.vs.set k (w'.set o x.s.ev.length) }∧
   (upX x k o W c v).e={ x.e with kind:=5,rd:=d,wr:=v }∧(upX x k o W c v).rf=r∧(upX x k o W c v).ix=x.ix:=by
 obtain⟨r,d,e,R⟩:=rd_do (x:=kdX x 5) (k:=k) h hc hfl;have R:Rdo x.p x.s o W c (rdV (kdX x 5) o W c) r d:=R;cases c with
 |zero=>
  have e1:(rdX (kdX x 5) k o W 0).rf=r:=by rw[e]
  have e2:(rdX (kdX x 5) k o W 0).e.rd=d:=by rw[e]
  refine⟨_,r,d,owV (rd0 (kdX x 5) k o W) o 0 (W.set o (-1)) v none,R,?_,?_,e1,rfl⟩
  ·simp[upX,wrX,rd0,setV,rdV,List.set_set]
  ·rw[←e2];rfl
 |succ c=>
  obtain⟨m,hm⟩:∃m,(gt2 x.s.ms o)[c]?=some m:=⟨_,List.getElem?_eq_getElem (show c<(gt2 x.s.ms o).length by omega)⟩;have e1:(rdX (kdX x 5) k o W (c+1)).rf=r:=by rw[e]
  have e2:(rdX (kdX x 5) k o W (c+1)).e.rd=d:=by rw[e]
  have e3:rdX (kdX x 5) k o W (c+1)=rd1 (kdX x 5) k o W m:=by simp[rdX,hm]
  rw[e3]at e1 e2;have e4:upX x k o W (c+1) v=reX (wrX (rd1 (kdX x 5) k o W m) k o (c+1) (if x.e.ord=2 then jnV x.s.ms (W.set o m.ev) m.vw 0 else W.set o m.ev) v (some m.vw)) m.val:=by simp[upX,hm]
  have e5:rdV (kdX x 5) o W (c+1)=if x.e.ord=2 then jnV x.s.ms (W.set o m.ev) m.vw 0 else W.set o m.ev:=by simp[rdV,hm]
  rw[e5]at R;rw[e4];refine⟨_,r,d,owV (rd1 (kdX x 5) k o W m) o (c+1) (if x.e.ord=2 then jnV x.s.ms (W.set o m.ev) m.vw 0 else W.set o m.ev) v (some m.vw),R,?_,?_,e1,rfl⟩
  ·simp[wrX,rd1,setV,List.set_set]
  ·rw[←e2];rfl
end Go.Am.E

set_option maxHeartbeats 8000000
namespace Go.Am.E
open Go.Proofs Go.Ex Go.Rc
structure Wro (s:Ra) (W w':List Int) (z:Stq) (o pl:Nat) (vw:List Int):Prop where
 hob:z.e.obj=o
 hlt:o<s.ms.length
 hkd:z.e.kind=2∨z.e.kind=5
 hms:z.s.ms=s.ms.set o (ins (gt2 s.ms o) pl ⟨s.ev.length,z.e.wr,vw⟩)
 hmo:z.s.mo=s.mo.set o (ins (gt2 s.mo o) pl s.ev.length)
 hpl:pl≤(gt2 s.ms o).length
 hnu:Nup s o pl
 hat:w'[o]?=some (s.ev.length:Int)
 hfl:∀y,W[o]?=some y→plM (gt2 s.ms o) y≤pl
 hup:z.e.kind=5→plM (gt2 s.ms o) z.rf=pl
 hok:okV z.e.wr=true
structure Eff (p:Pg) (s:Ra) (k:Nat) (W:List Int) (z:Stq) (w':List Int):Prop where
 th:z.s.th=s.th
 ix:z.ix=k
 vs:z.s.vs=s.vs.set k w'
 wl:w'.length=W.length
 le:Vle z.s.ms W w'
 wr:(z.s.ms=s.ms∧z.s.mo=s.mo∧z.e.kind≠2∧z.e.kind≠5)∨∃o pl vw,Wro s W w' z o pl vw
 rd:rdsK z.e.kind=true→∃o:Nat,z.e.obj=o∧o<s.ms.length∧Rdf p s o z.rf z.e.rd∧(∀y,W[o]?=some y→plM (gt2 s.ms o) y≤plM (gt2 s.ms o) z.rf)∧∀y,w'[o]?=some y→plM (gt2 z.s.ms o) z.rf≤plM (gt2 z.s.ms o) y
 nr:rdsK z.e.kind=false→z.rf = -2
 nk:z.e.kind≠4
def Qk (d:Int):Prop:=rdsK d=false∧d≠2∧d≠5∧d≠4
theorem q0:Qk 0:=⟨rfl,by decide,by decide,by decide⟩
theorem q7:Qk 7:=⟨rfl,by decide,by decide,by decide⟩
theorem q9:Qk 9:=⟨rfl,by decide,by decide,by decide⟩
theorem q10:Qk 10:=⟨rfl,by decide,by decide,by decide⟩
theorem q11:Qk 11:=⟨rfl,by decide,by decide,by decide⟩
theorem q12:Qk 12:=⟨rfl,by decide,by decide,by decide⟩
theorem q13:Qk 13:=⟨rfl,by decide,by decide,by decide⟩
theorem q14:Qk 14:=⟨rfl,by decide,by decide,by decide⟩
theorem q15:Qk 15:=⟨rfl,by decide,by decide,by decide⟩
theorem q17:Qk 17:=⟨rfl,by decide,by decide,by decide⟩
theorem Eff.quiet {p:Pg} {s:Ra} {k:Nat} {W w':List Int} {z:Stq} (hq:Qk z.e.kind) (th:z.s.th=s.th) (ix:z.ix=k) (vs:z.s.vs=s.vs.set k w') (wl:w'.length=W.length) (le:Vle s.ms W w') (ms:z.s.ms=s.ms) (mo:z.s.mo=s.mo) (rf:z.rf = -2):Eff p s k W z w':=
 ⟨th,ix,vs,wl,by rw[ms];exact le,.inl ⟨ms,mo,hq.2.1,hq.2.2.1⟩,fun h=>absurd (hq.1.symm.trans h) (by decide),fun _=>rf,hq.2.2.2⟩
theorem eff_mx {p:Pg} {x:Stq} {k:Nat} (i:Nat) {W o:List Int} (hx:x.ix=k) (hr:x.rf = -2) (h0:Ev0 x.s.ms) (gw:Gd x.s.ms W) (go:Gd x.s.ms o):Eff p x.s k W (mxX x k i W o) (jnV x.s.ms W o 0):=by
 have key:∀z:Stq,Qk z.e.kind→z.s.th=x.s.th→z.ix=x.ix→z.s.vs=x.s.vs.set k (jnV x.s.ms W o 0)→z.s.ms=x.s.ms→z.s.mo=x.s.mo→z.rf=x.rf→Eff p x.s k W z (jnV x.s.ms W o 0):=fun z a b c d e f g=>
  Eff.quiet a b (by rw[c,hx]) d (zcb7 ..) (jn_le h0 gw go) e f (by rw[g,hr])
 unfold mxX tkX
 repeat' split
 all_goals exact key _ (by first|exact q9|exact q10|exact q11|exact q12|exact q13|exact q14|exact q15) rfl rfl rfl rfl rfl rfl
theorem eff_sg {p:Pg} {x:Stq} {k:Nat} (c:Nat) {W u:List Int} (hx:x.ix=k) (hr:x.rf = -2) (h0:Ev0 x.s.ms) (gw:Gd x.s.ms W) (go:Gd x.s.ms u):Eff p x.s k W (sgX x k c W u) (jnV x.s.ms W u 0):=by
 have key:∀z:Stq,Qk z.e.kind→z.s.th=x.s.th→z.ix=x.ix→z.s.vs=x.s.vs.set k (jnV x.s.ms W u 0)→z.s.ms=x.s.ms→z.s.mo=x.s.mo→z.rf=x.rf→Eff p x.s k W z (jnV x.s.ms W u 0):=fun z a b c d e f g=>
  Eff.quiet a b (by rw[c,hx]) d (zcb7 ..) (jn_le h0 gw go) e f (by rw[g,hr])
 unfold sgX;split
 all_goals exact key _ (by first|exact q9|exact q10|exact q11|exact q12|exact q13|exact q14|exact q15) rfl rfl rfl rfl rfl rfl
theorem eff_wt {p:Pg} {x:Stq} {k:Nat} (t:Th) (i c:Nat) {W o u:List Int} (hx:x.ix=k) (hr:x.rf = -2) (h0:Ev0 x.s.ms) (gw:Gd x.s.ms W) (go:Gd x.s.ms o) (gu:Gd x.s.ms u):∃w',Eff p x.s k W (wtX x t k i c W o u) w':=by
 have key:∀(z:Stq) (w':List Int),w'.length=W.length→Vle x.s.ms W w'→Qk z.e.kind→z.s.th=x.s.th→z.ix=x.ix→z.s.vs=x.s.vs.set k w'→z.s.ms=x.s.ms→z.s.mo=x.s.mo→z.rf=x.rf→Eff p x.s k W z w':=fun z w' h1 h2 a b c d e f g=>
  Eff.quiet a b (by rw[c,hx]) d h1 h2 e f (by rw[g,hr])
 have l1:=jn_le h0 gw go;have g1:=jn_gd gw go;have l2:=l1.trans (jn_le h0 g1 gu) (by rw[zcb7]);unfold wtX tkX;split
 ·split
  all_goals exact⟨_,key _ _ (by rw[zcb7,zcb7]) l2 (by first|exact q9|exact q10|exact q11|exact q12|exact q13|exact q14|exact q15) rfl rfl rfl rfl rfl rfl⟩
 ·split
  ·exact⟨_,key _ _ (by rw[zcb7]) (jn_le h0 gw gu) (by first|exact q9|exact q10|exact q11|exact q12|exact q13|exact q14|exact q15) rfl rfl rfl rfl rfl rfl⟩
  ·exact⟨_,key _ _ (by rw[zcb7]) l1 (by first|exact q9|exact q10|exact q11|exact q12|exact q13|exact q14|exact q15) rfl rfl rfl rfl rfl rfl⟩
theorem gt2_set {α:Type} {l:List (List α)} {o:Nat} {r:List α} (h:o<l.length):gt2 (l.set o r) o=r:=by
 rw[gt2,List.getElem?_set_self h];rfl
theorem gt2_set_ne {α:Type} {l:List (List α)} {o d:Nat} {r:List α} (h:d≠o):gt2 (l.set o r) d=gt2 l d:=by
 rw[gt2,List.getElem?_set_ne (Ne.symm h)];rfl
theorem wr_le {s:Ra} {W w':List Int} {o pl:Nat} {m:Msg} (hW:Gd s.ms W) (hl:o<s.ms.length) (hm:m.ev=s.ev.length) (fr:∀b∈gt2 s.ms o,b.ev<s.ev.length) (hp:pl≤(gt2 s.ms o).length) (fl:∀y,W[o]?=some y→plM (gt2 s.ms o) y≤pl) (hwl:w'.length=W.length) (hle:Vle s.ms W w'):
  Vle (s.ms.set o (ins (gt2 s.ms o) pl m)) W (w'.set o s.ev.length):=by
 intro d x y hx hy;by_cases hd:d=o
 ·subst hd;rw[List.getElem?_set_self (by rw[hwl];exact (zca7 hx).2.2)]at hy;cases hy;rw[gt2_set hl];have h1:=fl x hx
  have h2:plM (ins (gt2 s.ms d) pl m) s.ev.length=pl+1:=by
   rw[←hm];exact plM_new hp (fun b hb=>by have:=fr b hb;omega)
  rw[h2]
  have h3:x≠m.ev:=by
   intro he;have h4:=hW.pos d x hx;unfold posM at h4;rw[if_neg (by omega),ixM_fx]at h4;cases hf:fx Msg.ev (gt2 s.ms d) x with
   |none=>rw[hf]at h4;simp at h4
   |some j=>
    obtain⟨b,b1,b2⟩:=fx_some hf;have:=fr b (List.mem_of_getElem? b1);omega
  rw[plM_old (Ne.symm h3),if_pos h1];omega
 ·rw[gt2_set_ne hd];rw[List.getElem?_set_ne (Ne.symm hd)]at hy;exact hle d x y hx hy
end Go.Am.E

set_option maxHeartbeats 8000000
namespace Go.Am.E
open Go.Proofs Go.Ex Go.Rc
theorem nup_of {s:Ra} {o k:Nat} (h:updV s o (k+1)=false):Nup s o k:=by
 intro m e hm he h5;unfold updV at h;simp only[hm,he,Option.map_some,Option.getD_some,h5]at h;simp at h
theorem eff_rd {p:Pg} {x:Stq} {k o c:Nat} {W:List Int} (z:Stq) (d:Int) (hd:d=1∨d=6∨d=8) (hx:x.ix=k) (A:Afd x.s o W) (hc:c≤(gt2 x.s.ms o).length) (hfl:∀y,W[o]?=some y→plM (gt2 x.s.ms o) y≤c)
  (h1:z.s=(rdX (kdX (obX x o x.i.r) d) k o W c).s) (h2:z.e=(rdX (kdX (obX x o x.i.r) d) k o W c).e) (h3:z.rf=(rdX (kdX (obX x o x.i.r) d) k o W c).rf) (h4:z.ix=(rdX (kdX (obX x o x.i.r) d) k o W c).ix):∃w',Eff x.p x.s k W z w':=by
 obtain⟨r,dd,e,R⟩:=rd_do (x:=kdX (obX x o x.i.r) d) (k:=k) A hc hfl;rw[e]at h1 h2 h3 h4;have R:Rdo x.p x.s o W c (rdV (kdX (obX x o x.i.r) d) o W c) r dd:=R;generalize rdV (kdX (obX x o x.i.r) d) o W c=w' at *
 have hk:z.e.kind=d:=by rw[h2]
 have ho:z.e.obj=o:=by rw[h2]
 have hms:z.s.ms=x.s.ms:=by rw[h1];rfl
 refine⟨w',by rw[h1];rfl,by rw[h4];exact hx,by rw[h1];rfl,by rw[R.gd.len,A.gw.len],by rw[hms];exact R.le,.inl ⟨hms,by rw[h1];rfl,by omega,by omega⟩,fun _=>⟨o,ho,A.lt,?_,?_,?_⟩,fun h=>?_,by omega⟩
 ·have:z.e.rd=dd:=by rw[h2]
  rw[h3,this];exact R.rf
 ·intro y hy;have:z.rf=r:=by rw[h3]
  rw[this,R.pl];exact hfl y hy
 ·intro y hy;have:z.rf=r:=by rw[h3]
  rw[this,hms,R.pl];exact R.up y hy
 ·rw[hk]at h;rcases hd with rfl|rfl|rfl<;>simp[rdsK]at h
theorem eff_up {p:Pg} {x:Stq} {k o c:Nat} {W:List Int} (z:Stq) (v:Int) (hv:okV v=true) (hx:x.ix=k) (A:Afd x.s o W) (fr:∀b∈gt2 x.s.ms o,b.ev<x.s.ev.length) (hc:c≤(gt2 x.s.ms o).length) (hfl:∀y,W[o]?=some y→plM (gt2 x.s.ms o) y≤c) (hn:Nup x.s o c)
  (h1:z.s=(upX (obX x o x.i.r) k o W c v).s) (h2:z.e=(upX (obX x o x.i.r) k o W c v).e) (h3:z.rf=(upX (obX x o x.i.r) k o W c v).rf) (h4:z.ix=(upX (obX x o x.i.r) k o W c v).ix):∃w',Eff x.p x.s k W z w':=by
 obtain⟨w',r,d,vw,R,e1,e2,e3,e4⟩:=up_do (x:=obX x o x.i.r) (k:=k) v A hc hfl;have R:Rdo x.p x.s o W c w' r d:=R;rw[e1]at h1;rw[e2]at h2;rw[e3]at h3;rw[e4]at h4;have hk:z.e.kind=5:=by rw[h2]
 have ho:z.e.obj=o:=by rw[h2]
 have hw:z.e.wr=v:=by rw[h2]
 have hrd:z.e.rd=d:=by rw[h2]
 have hms:z.s.ms=x.s.ms.set o (ins (gt2 x.s.ms o) c ⟨x.s.ev.length,v,vw⟩):=by rw[h1]
 have hol:o<w'.length:=by rw[R.gd.len];exact A.lt
 have hwl:w'.length=W.length:=by rw[R.gd.len,A.gw.len]
 refine⟨w'.set o x.s.ev.length,by rw[h1],by rw[h4];exact hx,by rw[h1],by rw[List.length_set];exact hwl,by rw[hms];exact wr_le A.gw A.lt rfl fr hc hfl hwl R.le,.inr ⟨o,c,vw,ho,A.lt,.inr hk,by rw[hms,hw],by rw[h1],hc,hn,List.getElem?_set_self hol,hfl,fun _=>by rw[h3];exact R.pl,by rw[hw];exact hv⟩,fun _=>⟨o,ho,A.lt,?_,?_,?_⟩,fun h=>?_,by omega⟩
 ·rw[h3,hrd];exact R.rf
 ·intro y hy;rw[h3,R.pl];exact hfl y hy
 ·intro y hy;rw[List.getElem?_set_self hol]at hy;cases hy;rw[hms,gt2_set A.lt,h3];have h2:plM (ins (gt2 x.s.ms o) c ⟨x.s.ev.length,v,vw⟩) x.s.ev.length=c+1:=plM_new hc (fun b hb=>by have:=fr b hb;dsimp only;omega);rw[h2]
  have hne:(x.s.ev.length:Int)≠r:=by
   have hr:=R.rf;rcases hr with⟨hr,-⟩|⟨m,hm,hr,-⟩
   ·omega
   ·have:=fr m hm;omega
  rw[plM_old hne,R.pl,if_pos (Nat.le_refl _)];omega
 ·rw[hk]at h;simp[rdsK]at h
theorem eff_ac {x:Stq} {t:Th} {k o c:Nat} {W:List Int} {fl:Int} (hx:x.ix=k) (hr:x.rf = -2) (ho:x.i.o=o) (A:Afd x.s o W) (fr:∀b∈gt2 x.s.ms o,b.ev<x.s.ev.length)
  (hop:acc x.i.op=true) (P:posB x.p x.s t x.i fl c=true) (hfl0:0≤fl) (hfl:∀y,W[o]?=some y→(plM (gt2 x.s.ms o) y:Int)=fl) (hb:x.i.op=9∨x.i.op=10→okV (reg t x.i.b)=true) (hc:x.i.op=12→okV (reg t x.i.c)=true):
  ∃w',Eff x.p x.s k W (acX x t k o W c) w':=by
 have hop:=acc_op hop;unfold posB at P;rw[ho,Int.toNat_natCast]at P;unfold acX;dsimp only;rw[ho];by_cases o8:x.i.op=8
 ·rw[if_pos o8]at P;simp only[Bool.and_eq_true,decide_eq_true_eq]at P;rw[if_pos (.inl o8),if_neg (by omega)];exact eff_rd (p:=x.p) _ 1 (.inl rfl) hx A P.2 (fun y hy=>by have:=hfl y hy;omega) rfl rfl rfl rfl
 rw[if_neg o8]at P;by_cases o14:x.i.op=14
 ·rw[if_pos o14]at P;simp only[Bool.and_eq_true,decide_eq_true_eq]at P;rw[if_pos (.inr o14),if_pos o14];exact eff_rd (p:=x.p) _ 8 (.inr (.inr rfl)) hx A P.2.1 (fun y hy=>by have:=hfl y hy;omega) rfl rfl rfl rfl
 rw[if_neg o14]at P;rw[if_neg (by omega)];by_cases o9:x.i.op=9
 ·rw[if_pos o9]at P;simp only[Bool.and_eq_true,decide_eq_true_eq,Bool.not_eq_true']at P;obtain⟨P1,P2,P3⟩:=P;rw[if_pos o9];obtain⟨c',rfl⟩:∃c',c=c'+1:=⟨c-1,by omega⟩;have hpl:c'≤(gt2 x.s.ms o).length:=by omega
  have hfl':∀y,W[o]?=some y→plM (gt2 x.s.ms o) y≤c':=fun y hy=>by have:=hfl y hy;omega
  have hol:o<W.length:=by rw[A.gw.len];exact A.lt
  exact⟨W.set o x.s.ev.length,rfl,hx,rfl,by simp,wr_le A.gw A.lt rfl fr hpl hfl' rfl (Vle.rfl' _ _),.inr ⟨o,c',_,rfl,A.lt,.inl rfl,rfl,rfl,hpl,nup_of P3,List.getElem?_set_self hol,hfl',fun (h:(2:Int)=5)=>absurd h (by decide),hb (.inl o9)⟩,fun (h:rdsK 2=true)=>absurd h (by decide),fun _=>hr,(show (2:Int)≠4 by decide)⟩
 rw[if_neg o9]at P;rw[if_neg o9];by_cases o12:x.i.op=12
 ·rw[if_pos o12]at P;simp only[Bool.and_eq_true,Bool.or_eq_true,decide_eq_true_eq,Bool.not_eq_true']at P;obtain⟨P1,P2,P3⟩:=P;have hfl':∀y,W[o]?=some y→plM (gt2 x.s.ms o) y≤c:=fun y hy=>by have:=hfl y hy;omega
  rw[if_neg (by omega),if_neg (by omega)];by_cases hA:atV x.p x.s o c=reg t x.i.b
  ·rw[if_pos hA];exact eff_up (p:=x.p) _ (reg t x.i.c) (hc o12) hx A fr P2 hfl' (nup_of (P3.resolve_left (fun h=>h hA))) rfl rfl rfl rfl
  ·rw[if_neg hA];exact eff_rd (p:=x.p) _ 6 (.inr (.inl rfl)) hx A P2 hfl' rfl rfl rfl rfl
 rw[if_neg o12]at P;simp only[Bool.and_eq_true,decide_eq_true_eq,Bool.not_eq_true']at P;obtain⟨P1,P2,P3⟩:=P;have hfl':∀y,W[o]?=some y→plM (gt2 x.s.ms o) y≤c:=fun y hy=>by have:=hfl y hy;omega
 by_cases o10:x.i.op=10
 ·rw[if_pos o10];exact eff_up (p:=x.p) _ _ (hb (.inr o10)) hx A fr P2 hfl' (nup_of P3) rfl rfl rfl rfl
 ·rw[if_neg o10,if_pos (by omega)];exact eff_up (p:=x.p) _ _ (by rw[okV_iff];exact w32_isVal _) hx A fr P2 hfl' (nup_of P3) rfl rfl rfl rfl
end Go.Am.E

set_option maxHeartbeats 8000000
namespace Go.Am.E
open Go.Proofs Go.Ex Go.Rc
theorem gdM_at {s:Ra} {x:Nat} (h:gdM s x=true) {j:Nat} {m:Msg} (hm:(gt2 s.ms x)[j]?=some m):(0≤m.ev∧m.ev<s.ev.length)∧(gt2 s.mo x)[j]?=some m.ev∧((gt2 s.mo x).take j).contains m.ev=false∧
  ∃e,s.ev[m.ev.toNat]?=some e∧(e.kind=2∨e.kind=5)∧e.obj=x∧e.wr=m.val∧okV m.val=true:=by
 simp only[gdM,Bool.and_eq_true,decide_eq_true_eq]at h;have h1:=alI_all.1 h.2 j m hm;simp only[Bool.and_eq_true,decide_eq_true_eq,Nat.zero_add,Bool.not_eq_true']at h1;obtain⟨⟨⟨h1,h2⟩,h3⟩,h4⟩:=h1;refine⟨h1,h2,h3,?_⟩;cases he:s.ev[m.ev.toNat]? with
 |none=>rw[he]at h4;cases h4
 |some e=>
  rw[he]at h4;simp only[Bool.and_eq_true,Bool.or_eq_true,decide_eq_true_eq]at h4;exact⟨e,rfl,h4.1.1.1,h4.1.1.2,h4.1.2,h4.2⟩
theorem Vl.e0 {p:Pg} {bd:Int} {s:Ra} (h:Vl p bd s):Ev0 s.ms:=fun d m hm=>by
 by_cases hd:d<s.ms.length
 ·exact (gdM_ev (h.gm d hd) m hm).1
 ·rw[zle7 hd]at hm;cases hm
theorem Vl.fr {p:Pg} {bd:Int} {s:Ra} (h:Vl p bd s) (d:Nat):∀b∈gt2 s.ms d,b.ev<s.ev.length:=fun m hm=>by
 by_cases hd:d<s.ms.length
 ·exact (gdM_ev (h.gm d hd) m hm).2
 ·rw[zle7 hd]at hm;cases hm
theorem Vl.ds {p:Pg} {bd:Int} {s:Ra} (h:Vl p bd s) (d:Nat) (i j:Nat) (a b:Msg) (ha:(gt2 s.ms d)[i]?=some a) (hb:(gt2 s.ms d)[j]?=some b) (hij:i<j):a.ev≠b.ev:=by
 intro he;by_cases hd:d<s.ms.length
 ·have h1:=(gdM_at (h.gm d hd) ha).2.1;have h2:=(gdM_at (h.gm d hd) hb).2.2.1;rw[he]at h1;have:b.ev∈(gt2 s.mo d).take j:=List.mem_of_getElem? (i:=i) (by rw[List.getElem?_take,if_pos hij];exact h1);rw[←List.contains_iff_mem,h2]at this;cases this
 ·rw[zle7 hd]at ha;cases ha
theorem Vl.afd {p:Pg} {bd:Int} {s:Ra} (h:Vl p bd s) {o:Nat} (ho:o<s.ms.length) {W:List Int} (hW:Gd s.ms W):Afd s o W:=
 ⟨ho,h.e0,h.ds o,hW,fun m hm=>gdV_gd (h.mv _ (List.mem_of_getElem? (zec7 ho)) m hm)⟩
theorem Vl.gdk {p:Pg} {bd:Int} {s:Ra} (h:Vl p bd s) {k:Nat} (hk:k<s.th.length):Gd s.ms (gt2 s.vs k):=
 gdV_gd (h.gv _ (List.mem_of_getElem? (zec7 (by rw[h.hvl];exact hk))))
theorem reg_ok {p:Pg} {bd:Int} {t:Th} {b:Int} (h:frmT p bd t=true) (hb:0≤b∧b<8):okV (reg t b)=true:=by
 unfold frmT at h;split at h
 ·cases h
 ·simp only[Bool.and_eq_true,List.all_eq_true]at h;obtain⟨j,hj,j1,-⟩:=rg8 hb;have h1:=h.1.1.1.1.1.1.2 j (List.mem_range.2 j1);rw[hj];simpa[reg]using h1
theorem StR.pi {p:Pg} {bd:Int} {s:Ra} {ag ch:Int} {k:Nat} {t:Th} {i:In} (S:StR p bd s ag ch k t i) (hb:Tb t):Pi p i∧vis i.op=true∧t.ss=1∧frmT p bd t=true:=by
 obtain⟨a,b,c,d,-⟩:=pen_pi (zge7 S.b).1 hb S.pn;have hok:=S.v.ok t (List.mem_of_getElem? S.th);unfold okT at hok;rw[Bool.and_eq_true]at hok;exact⟨a,b,c,hok.1⟩
theorem exX_x0 (p:Pg) (bd:Int) (s:Ra) (ag ch:Int) (k:Nat) (t:Th) (i:In):exX (x0R p bd s ag ch k t i) t k=
  if i.op=13 then kdX (x0R p bd s ag ch k t i) 7
  else if i.op=15∨i.op=16∨i.op=17 then mxX (x0R p bd s ag ch k t i) k i.o.toNat (gt2 s.vs k) (gt2 s.lk i.o.toNat)
  else if i.op=18 then wtX (x0R p bd s ag ch k t i) t k i.n.toNat i.o.toNat (gt2 s.vs k) (gt2 s.lk i.n.toNat) (gt2 s.sg i.o.toNat)
  else if i.op=19∨i.op=20 then sgX (x0R p bd s ag ch k t i) k i.o.toNat (gt2 s.vs k) (gt2 s.sg i.o.toNat)
  else if i.op=21 then (match chd t with
   |none=>erX (x0R p bd s ag ch k t i) 30
   |some c=>if (fndT s.th c).isSome=true∨newE p bd c i.o (reg t i.b)≠0 then erX (x0R p bd s ag ch k t i) 30 else spX (x0R p bd s ag ch k t i) k (posT c s.th) (gt2 s.vs k) (newT p bd c i.o (reg t i.b)))
  else if i.op=22 then (match fndT s.th (reg t i.b) with
   |none=>koX (x0R p bd s ag ch k t i) 17 (reg t i.b)
   |some j=>setV (koX (x0R p bd s ag ch k t i) 17 (reg t i.b)) k (jnV s.ms (gt2 s.vs k) (gt2 s.vs j) 0))
  else acX (x0R p bd s ag ch k t i) t k i.o.toNat (gt2 s.vs k) ch.toNat:=rfl
theorem stp_eff {p:Pg} {bd:Int} {s:Ra} {ag ch:Int} {k:Nat} {t:Th} {i:In} (S:StR p bd s ag ch k t i) (hb:Tb t) (h21:i.op≠21):∃w',Eff p s k (gt2 s.vs k) (exX (x0R p bd s ag ch k t i) t k) w':=by
 obtain⟨P,hvi,hss,hfr⟩:=S.pi hb;have hkl:=(zca7 S.th).2.2;have gW:=S.v.gdk hkl;have h0:=S.v.e0;simp only[vis,decide_eq_true_eq]at hvi;have gl:∀o:Nat,o<p.ms.length→Gd s.ms (gt2 s.lk o):=fun o ho=>gdV_gd (S.v.gl _ (List.mem_of_getElem? (zec7 (by rw[S.v.hlk];exact ho))))
 have gs:∀o:Nat,o<p.cs.length→Gd s.ms (gt2 s.sg o):=fun o ho=>gdV_gd (S.v.gs _ (List.mem_of_getElem? (zec7 (by rw[S.v.hsg];exact ho))))
 have oM:i.op=15∨i.op=16∨i.op=17→i.o.toNat<p.ms.length:=fun ho=>by
  obtain⟨o,h1,h2⟩:=P.ob (by unfold nob;rw[if_neg (by omega),if_pos ho];omega);unfold nob at h2;rw[if_neg (by omega),if_pos ho]at h2;omega
 have oC:i.op=18∨i.op=19∨i.op=20→i.o.toNat<p.cs.length:=fun ho=>by
  obtain⟨o,h1,h2⟩:=P.ob (by unfold nob;rw[if_neg (by omega),if_neg (by omega),if_pos ho];omega);unfold nob at h2;rw[if_neg (by omega),if_neg (by omega),if_pos ho]at h2;omega
 by_cases o13:i.op=13
 ·have e:exX (x0R p bd s ag ch k t i) t k=kdX (x0R p bd s ag ch k t i) 7:=by rw[exX_x0,if_pos o13]
  rw[e];exact⟨gt2 s.vs k,Eff.quiet q7 rfl rfl (set_at (zec7 (show k<s.vs.length by rw[S.v.hvl];exact hkl))).symm rfl (Vle.rfl' _ _) rfl rfl rfl⟩
 by_cases hM:i.op=15∨i.op=16∨i.op=17
 ·have e:exX (x0R p bd s ag ch k t i) t k=mxX (x0R p bd s ag ch k t i) k i.o.toNat (gt2 s.vs k) (gt2 s.lk i.o.toNat):=by
   rw[exX_x0,if_neg o13,if_pos hM]
  rw[e];exact⟨_,eff_mx i.o.toNat (x:=x0R p bd s ag ch k t i) rfl rfl h0 gW (gl _ (oM hM))⟩
 by_cases hW:i.op=18
 ·obtain⟨n,hn,hn2⟩:=P.mu hW
  have e:exX (x0R p bd s ag ch k t i) t k=wtX (x0R p bd s ag ch k t i) t k i.n.toNat i.o.toNat (gt2 s.vs k) (gt2 s.lk i.n.toNat) (gt2 s.sg i.o.toNat):=by
   rw[exX_x0,if_neg o13,if_neg hM,if_pos hW]
  rw[e];exact eff_wt t i.n.toNat i.o.toNat (x:=x0R p bd s ag ch k t i) rfl rfl h0 gW (gl _ (by omega)) (gs _ (oC (.inl hW)))
 by_cases hS:i.op=19∨i.op=20
 ·have e:exX (x0R p bd s ag ch k t i) t k=sgX (x0R p bd s ag ch k t i) k i.o.toNat (gt2 s.vs k) (gt2 s.sg i.o.toNat):=by
   rw[exX_x0,if_neg o13,if_neg hM,if_neg hW,if_pos hS]
  rw[e];exact⟨_,eff_sg i.o.toNat (x:=x0R p bd s ag ch k t i) rfl rfl h0 gW (gs _ (oC (by omega)))⟩
 by_cases hJ:i.op=22
 ·cases hf:fndT s.th (reg t i.b) with
  |none=>
   have e:exX (x0R p bd s ag ch k t i) t k=koX (x0R p bd s ag ch k t i) 17 (reg t i.b):=by
    rw[exX_x0,if_neg o13,if_neg hM,if_neg hW,if_neg hS,if_neg h21,if_pos hJ,hf]
   rw[e];exact⟨gt2 s.vs k,Eff.quiet q17 rfl rfl (set_at (zec7 (show k<s.vs.length by rw[S.v.hvl];exact hkl))).symm rfl (Vle.rfl' _ _) rfl rfl rfl⟩
  |some j=>
   have e:exX (x0R p bd s ag ch k t i) t k=setV (koX (x0R p bd s ag ch k t i) 17 (reg t i.b)) k (jnV s.ms (gt2 s.vs k) (gt2 s.vs j) 0):=by
    rw[exX_x0,if_neg o13,if_neg hM,if_neg hW,if_neg hS,if_neg h21,if_pos hJ,hf]
   rw[e];obtain⟨u,hu,-⟩:=fndT_get hf;have gj:=S.v.gdk (zca7 hu).2.2;exact⟨_,Eff.quiet q17 rfl rfl rfl (zcb7 ..) (jn_le h0 gW gj) rfl rfl rfl⟩
 ·have ha:acc i.op=true:=by simp[acc];omega
  obtain⟨o,ho,ho2⟩:=P.va (acc_op ha);have hom:o<s.ms.length:=by rw[S.v.hms];exact ho2
  have hpos:=fun y (hy:(gt2 s.vs k)[o]?=some y)=>gW.pos o y hy
  have hgo:(gt2 s.vs k)[o]?=some ((gt2 s.vs k)[o]'(by rw[gW.len];exact hom)):=List.getElem?_eq_getElem _
  have hp0:0≤posM (gt2 s.ms i.o.toNat) (((gt2 s.vs k)[i.o.toNat]?).getD 0):=by
   rw[ho,Int.toNat_natCast,hgo];exact hpos _ hgo
  obtain⟨c,hc,hP,hcc⟩:=chs_ac S.pn ha S.hc hp0
  have e:exX (x0R p bd s ag ch k t i) t k=acX (x0R p bd s ag ch k t i) t k o (gt2 s.vs k) c:=by
   rw[exX_x0,if_neg o13,if_neg hM,if_neg hW,if_neg hS,if_neg h21,if_neg hJ,ho,hc,Int.toNat_natCast,Int.toNat_natCast]
  rw[e];rw[ho,Int.toNat_natCast]at hP hp0;have hrg:=P.reg;refine eff_ac (x:=x0R p bd s ag ch k t i) rfl rfl ho (S.v.afd hom gW) (S.v.fr o) ha hP hp0 (fun y hy=>?_) (fun h=>reg_ok hfr (hrg.2.1 ?_)) (fun h=>reg_ok hfr (hrg.2.2 ?_))
  ·have hy:(gt2 s.vs k)[o]?=some y:=hy;rw[hy,Option.getD_some];exact (pos_pl (h0 o) (hpos y hy)).symm
  ·have h:i.op=9∨i.op=10:=h;rcases h with h|h<;>rw[h]<;>rfl
  ·have h:i.op=12:=h;rw[h];rfl
end Go.Am.E

set_option maxHeartbeats 8000000
namespace Go.Am.E
open Go.Proofs Go.Ex Go.Rc
theorem ids_set {l:List Th} {k:Nat} {t u:Th} (h:l[k]?=some t) (hid:u.id=t.id):(l.set k u).map Th.id=l.map Th.id:=by
 rw[List.map_set,hid];exact set_at (by rw[List.getElem?_map,h];rfl)
theorem fndT_ids {l l':List Th} (h:l.map Th.id=l'.map Th.id) (e:Int):fndT l e=fndT l' e:=by
 rw[fndT_fx,fndT_fx];exact fx_map h e
def thI (i:In) (m j:Nat):Nat:=if i.op=21 then (if j<m then j else j+1) else j
structure Tvs (p:Pg) (s:Ra) (k:Nat) (W:List Int) (s':Ra) (w':List Int) (f:Nat→Nat):Prop where
 vt:s'.vs.length=s'.th.length
 fn:∀j a,s.th[j]?=some a→fndT s'.th a.id=some (f j)
 row:∀j w,s.vs[j]?=some w→j≠k→s'.vs[f j]?=some w
 own:s'.vs[f k]?=some w'
theorem stp_sp {p:Pg} {bd:Int} {s:Ra} {ag ch:Int} {k:Nat} {t:Th} {i:In} (S:StR p bd s ag ch k t i) (h21:i.op=21):∃c,chd t=some c∧fndT s.th c=none∧exX (x0R p bd s ag ch k t i) t k=spX (x0R p bd s ag ch k t i) k (posT c s.th) (gt2 s.vs k) (newT p bd c i.o (reg t i.b)):=by
 have her:=S.er;rw[exX_x0,if_neg (by omega),if_neg (by omega),if_neg (by omega),if_neg (by omega),if_pos h21]at her ⊢;cases hc:chd t with
 |none=>rw[hc]at her;exact absurd her (by show (30:Int)≠0;decide)
 |some c=>
  rw[hc]at her;dsimp only at her ⊢;split at her
  ·exact absurd her (by show (30:Int)≠0;decide)
  ·rename_i hn;refine⟨c,rfl,?_,by rw[if_neg hn]⟩;cases hf:fndT s.th c with
   |none=>rfl
   |some j=>exact absurd (.inl (by rw[hf];rfl)) hn
theorem Tvs.of_eff {p:Pg} {bd:Int} {s:Ra} {ag ch:Int} {k:Nat} {t:Th} {i:In} (S:StR p bd s ag ch k t i) {w':List Int} {z:Stq} (E:Eff p s k (gt2 s.vs k) z w'):Tvs p s k (gt2 s.vs k) (afR p bd t z) w' id:=by
 have hth:(afR p bd t z).th=s.th.set k (cmpT p bd t z.re):=by
  show z.s.th.set z.ix.toNat _=_
  rw[E.th,E.ix,Int.toNat_natCast]
 have hids:(afR p bd t z).th.map Th.id=s.th.map Th.id:=by rw[hth];exact ids_set S.th cmpT_id
 have hvs:(afR p bd t z).vs=s.vs.set k w':=E.vs;have hkv:k<s.vs.length:=by rw[S.v.hvl];exact (zca7 S.th).2.2
 refine⟨by rw[hvs,hth,List.length_set,List.length_set];exact S.v.hvl,fun j a ha=>?_,fun j w hw hj=>?_,?_⟩
 ·rw[fndT_ids hids];exact fndT_srt S.v.so ha
 ·rw[hvs,id,List.getElem?_set_ne (Ne.symm hj)];exact hw
 ·rw[hvs,id,List.getElem?_set_self hkv]
theorem Tvs.of_sp {p:Pg} {bd:Int} {s:Ra} {ag ch:Int} {k:Nat} {t:Th} {i:In} (S:StR p bd s ag ch k t i) {c:Int} (hf:fndT s.th c=none) {C:Th} (hC:C.id=c):Tvs p s k (gt2 s.vs k) (afR p bd t (spX (x0R p bd s ag ch k t i) k (posT c s.th) (gt2 s.vs k) C)) (gt2 s.vs k) (fun j=>if j<posT c s.th then j else j+1):=by
 have hm:=posT_le c s.th;generalize posT c s.th=m at *
 have hkl:=(zca7 S.th).2.2;have hvl:=S.v.hvl
 have hth:(afR p bd t (spX (x0R p bd s ag ch k t i) k m (gt2 s.vs k) C)).th=(ins s.th m C).set (if k<m then k else k+1) (cmpT p bd t c):=by
  show (ins s.th m C).set (Int.toNat (if m≤k then (k:Int)+1 else k)) (cmpT p bd t C.id)=_
  rw[hC];by_cases h:m≤k
  ·rw[if_pos h,if_neg (by omega)];rfl
  ·rw[if_neg h,if_pos (by omega)];rfl
 have hat:(ins s.th m C)[if k<m then k else k+1]?=some t:=by rw[ins_old C s.th m k hm];exact S.th
 have hids:(afR p bd t (spX (x0R p bd s ag ch k t i) k m (gt2 s.vs k) C)).th.map Th.id=(ins s.th m C).map Th.id:=by rw[hth];exact ids_set hat cmpT_id
 have hvs:(afR p bd t (spX (x0R p bd s ag ch k t i) k m (gt2 s.vs k) C)).vs=ins s.vs m (gt2 s.vs k):=rfl;refine⟨by rw[hvs,hth,List.length_set,zke7 _ _ _ hm,zke7 _ _ _ (by omega)];omega,fun j a ha=>?_,fun j w hw hj=>?_,?_⟩
 ·rw[fndT_ids hids,fndT_fx]
  have hne:C.id≠a.id:=by
   intro he;rw[fndT_fx]at hf;exact fx_none.1 hf a (List.mem_of_getElem? ha) (by rw[←he,hC])
  rw[fx_ins_old hne,←fndT_fx,fndT_srt S.v.so ha];rfl
 ·rw[hvs,ins_old _ s.vs m j (by omega)];exact hw
 ·rw[hvs,ins_old _ s.vs m k (by omega)];exact zec7 (by omega)
theorem fol_of {p:Pg} {bd:Int} {s s':Ra} {k:Nat} {w':List Int} {f:Nat→Nat} (V:Vl p bd s) (hk:k<s.th.length) (T:Tvs p s k (gt2 s.vs k) s' w' f) (hms:s'.ms.length=s.ms.length) (hwl:w'.length=(gt2 s.vs k).length) (hle:Vle s'.ms (gt2 s.vs k) w'):Fol s s':=by
 intro j a ha;have hj:=(zca7 ha).2.2;have hv:=zec7 (show j<s.vs.length by rw[V.hvl];exact hj);have hg:=gdV_len (V.gv _ (List.mem_of_getElem? hv));by_cases hjk:j=k
 ·subst hjk;exact⟨f j,_,w',T.fn j a ha,T.own,hv,hwl,by omega,hle⟩
 ·exact⟨f j,_,_,T.fn j a ha,T.row j _ hv hjk,hv,rfl,by omega,Vle.rfl' _ _⟩
theorem mon_ok {p:Pg} {bd:Int} {n:Nat} {s:Ra} {ag ch:Int} {s':Ra} {e:Evt} (hj:Jr n s) (hn:n≤900) (h:stpR p bd s ag ch=.inr (s',e)):∃r j w,Mon p s ag s' e r j w:=by
 obtain⟨k,t,i,S,hr⟩:=stpR_inr h;obtain⟨rfl,rfl⟩:=Prod.mk.inj hr;have hkl:=(zca7 S.th).2.2;have htb:=(hj.sw' hn).sr.tb t (List.mem_of_getElem? S.th);obtain⟨i1,i2,-⟩:=exX_inv (x0R p bd s ag ch k t i) t k rfl hkl;have gW:=S.v.gdk hkl;have hid:t.id=ag:=S.id;by_cases h21:i.op=21
 ·obtain⟨c,h1,h2,h3⟩:=stp_sp S h21;have T:=Tvs.of_sp S h2 (newT_id p bd c i.o (reg t i.b));rw[h3]at i1 i2 ⊢;have hfn:=T.fn k t S.th;rw[hid]at hfn
  exact⟨-2,_,gt2 s.vs k,{
   ms:=S.v.hms,vs:=T.vt,fo:=fol_of S.v hkl T rfl rfl (Vle.rfl' _ _)
   ev:=by show _++[_]=_;rw[i1];rfl
   rl:=S.v.rf
   rf:=by show _++[_]=_;rw[i2];rfl
   fn:=hfn,hw:=T.own,wl:=gW.len
   ob:=fun h=>by
    have h:rdsK 16=true∨(16:Int)=2∨(16:Int)=5:=h;rcases h with h|h|h
    ·exact absurd h (by decide)
    ·omega
    ·omega
   nk:=by show (16:Int)≠4;decide }⟩
 ·obtain⟨w',E⟩:=stp_eff S htb h21;have T:=Tvs.of_eff S E;generalize exX (x0R p bd s ag ch k t i) t k=z at *
  have hfn:=T.fn k t S.th;rw[hid]at hfn
  have hms:z.s.ms.length=s.ms.length:=by
   rcases E.wr with⟨h,-⟩|⟨o,pl,vw,R⟩
   ·rw[h]
   ·rw[R.hms,List.length_set]
  exact⟨z.rf,_,w',{
   ms:=by show z.s.ms.length=_;rw[hms];exact S.v.hms
   vs:=T.vt
   fo:=fol_of S.v hkl T hms E.wl E.le
   ev:=by show _++[_]=_;rw[i1];rfl
   rl:=S.v.rf
   rf:=by show _++[_]=_;rw[i2];rfl
   fn:=hfn,hw:=T.own
   wl:=by rw[E.wl,gW.len];exact hms.symm
   ob:=fun h=>by
    show ∃o:Nat,z.e.obj=o∧o<z.s.ms.length∧_
    rcases E.wr with⟨h1,h2,h3,h4⟩|⟨o,pl,vw,R⟩
    ·have hr:rdsK z.e.kind=true:=by
      rcases h with h|h|h
      ·exact h
      ·exact absurd h h3
      ·exact absurd h h4
     obtain⟨o,o1,o2,o3,o4,o5⟩:=E.rd hr;exact⟨o,o1,by omega,fun h=>by rcases h with h|h;exact absurd h h3;exact absurd h h4,fun _=>o5⟩
    ·refine⟨o,R.hob,by have:=R.hlt;omega,fun _=>R.hat,fun hr=>?_⟩;obtain⟨o',o1,o2,o3,o4,o5⟩:=E.rd hr;have:o'=o:=by have:=R.hob;omega
     subst this;exact o5
   nk:=E.nk }⟩
end Go.Am.E

set_option maxRecDepth 10000
set_option maxHeartbeats 16000000
namespace Go.Am.E
open Go.Proofs Go.Ex Go.Rc
theorem run5 (p:Pg) (bd:Int) (l:List (Int×Int)):K 5 [.dat (.agg (WDl p bd l))] []=some (.dat (.bool true),[]):=by
 obtain⟨b,h9,hb⟩:=run9 p bd l;have h11:=run11;cases b
 ·refine ce rfl ?_;simp at h9;simp[h9,h11]
 ·obtain⟨hf,hl⟩:=hb rfl;by_cases h0:stdE p bd=0;rotate_left
  ·have h21:=run21e p hf bd h0;generalize stdE p bd=E at *
   refine ce rfl ?_;simp at h9;simp[h9,h11,h21,h0]
  ·have h21:=run21 p hf bd h0;have hj:=Jr.st0 h0;have hlp:=loop5 p hf bd l (by omega) (fun n s ag ch s' e a b c=>mon_ok a b c) l 0 (st0 p bd);generalize st0 p bd=s0 at *
   refine ce rfl ?_;simp at h9;simp[h9,h11,h21];simp only[zaa7];refine (hlp _ rfl hj (by simp)).mono ?_;rintro⟨y,s'⟩ ⟨rfl,os,hq⟩;dsimp only at hq;simp[hq,h11]
end Go.Am.E

namespace Go.Proofs
open Go.Shelf
def TryzL.sort_ren:Go.Shelf.Ren:=⟨fun|5=>236|8=>260|7=>259|19=>278|20=>279|10=>269|11=>270|12=>271|13=>272|14=>273|15=>274|16=>275|17=>276|18=>277|30=>282|31=>283|32=>284|33=>285|34=>286|35=>287|40=>288|n=>n,fun|23=>32|25=>3|3=>3|32=>192|22=>32|0=>0|44=>170|46=>231|4=>4|36=>250|35=>249|41=>61|5=>5|9=>9|53=>258|57=>262|63=>264|64=>195|n=>n,fun|n=>n⟩
theorem TryzL.sort:Go.Proofs.SlLaysM.n5 Tryz.prog TryzL.sort_ren:={
 mixed:=by kernel_rfl
 f5:=⟨Tryz.f236.name,by decide,Tryz.func236.trans (congrArg some (by kernel_rfl))⟩
 f7:=⟨Tryz.f259.name,by decide,Tryz.func259.trans (congrArg some (by kernel_rfl))⟩
 f8:=Tryz.func260.trans (congrArg some (by kernel_rfl))
 f10:=⟨Tryz.f269.name,by decide,Tryz.func269.trans (congrArg some (by kernel_rfl))⟩
 f11:=⟨Tryz.f270.name,by decide,Tryz.func270.trans (congrArg some (by kernel_rfl))⟩
 f12:=⟨Tryz.f271.name,by decide,Tryz.func271.trans (congrArg some (by kernel_rfl))⟩
 f13:=⟨Tryz.f272.name,by decide,Tryz.func272.trans (congrArg some (by kernel_rfl))⟩
 f14:=⟨Tryz.f273.name,by decide,Tryz.func273.trans (congrArg some (by kernel_rfl))⟩
 f15:=⟨Tryz.f274.name,by decide,Tryz.func274.trans (congrArg some (by kernel_rfl))⟩
 f16:=⟨Tryz.f275.name,by decide,Tryz.func275.trans (congrArg some (by kernel_rfl))⟩
 f17:=⟨Tryz.f276.name,by decide,Tryz.func276.trans (congrArg some (by kernel_rfl))⟩
 f18:=⟨Tryz.f277.name,by decide,Tryz.func277.trans (congrArg some (by kernel_rfl))⟩
 f19:=Tryz.func278.trans (congrArg some (by kernel_rfl))
 f20:=Tryz.func279.trans (congrArg some (by kernel_rfl))
 f30:=⟨Tryz.f282.name,by decide,Tryz.func282.trans (congrArg some (by kernel_rfl))⟩
 f31:=Tryz.func283.trans (congrArg some (by kernel_rfl))
 f32:=Tryz.func284.trans (congrArg some (by kernel_rfl))
 f33:=⟨Tryz.f285.name,by decide,Tryz.func285.trans (congrArg some (by kernel_rfl))⟩
 f34:=⟨Tryz.f286.name,by decide,Tryz.func286.trans (congrArg some (by kernel_rfl))⟩
 f35:=⟨Tryz.f287.name,by decide,Tryz.func287.trans (congrArg some (by kernel_rfl))⟩
 f40:=⟨Tryz.f288.name,by decide,Tryz.func288.trans (congrArg some (by kernel_rfl))⟩
 t0:=Tryz.underlying0
 a0:=Tryz.isAgg0
 z0:=Tryz.sizeOf0
 v0:=Tryz.zeroValue0
 t3:=Tryz.underlying3
 a3:=Tryz.isAgg3
 z3:=Tryz.sizeOf3
 v3:=Tryz.zeroValue3
 t4:=Tryz.underlying4
 a4:=Tryz.isAgg4
 z4:=Tryz.sizeOf4
 v4:=Tryz.zeroValue4
 t5:=Tryz.underlying5
 a5:=Tryz.isAgg5
 z5:=Tryz.sizeOf5
 v5:=Tryz.zeroValue5
 t9:=Tryz.underlying9
 a9:=Tryz.isAgg9
 z9:=Tryz.sizeOf9
 v9:=Tryz.zeroValue9
 t22:=Tryz.underlying32
 a22:=Tryz.isAgg32
 z22:=Tryz.sizeOf32
 v22:=Tryz.zeroValue32
 t23:=Tryz.underlying32
 a23:=Tryz.isAgg32
 z23:=Tryz.sizeOf32
 v23:=Tryz.zeroValue32
 t25:=Tryz.underlying3
 a25:=Tryz.isAgg3
 z25:=Tryz.sizeOf3
 v25:=Tryz.zeroValue3
 t32:=Tryz.underlying192
 a32:=Tryz.isAgg192
 z32:=Tryz.sizeOf192
 v32:=Tryz.zeroValue192
 t35:=Tryz.underlying249
 a35:=Tryz.isAgg249
 z35:=Tryz.sizeOf249
 v35:=Tryz.zeroValue249
 t36:=Tryz.underlying250
 a36:=Tryz.isAgg250
 z36:=Tryz.sizeOf250
 v36:=Tryz.zeroValue250
 t41:=Tryz.underlying61
 a41:=Tryz.isAgg61
 z41:=Tryz.sizeOf61
 v41:=Tryz.zeroValue61
 t44:=Tryz.underlying170
 a44:=Tryz.isAgg170
 z44:=Tryz.sizeOf170
 v44:=Tryz.zeroValue170
 t46:=Tryz.underlying231
 a46:=Tryz.isAgg231
 z46:=Tryz.sizeOf231
 v46:=Tryz.zeroValue231
 t53:=Tryz.underlying258
 a53:=Tryz.isAgg258
 z53:=Tryz.sizeOf258
 v53:=Tryz.zeroValue258
 t57:=Tryz.underlying262
 a57:=Tryz.isAgg262
 z57:=Tryz.sizeOf262
 v57:=Tryz.zeroValue262
 t63:=Tryz.underlying264
 a63:=Tryz.isAgg264
 z63:=Tryz.sizeOf264
 v63:=Tryz.zeroValue264
 t64:=Tryz.underlying195
 a64:=Tryz.isAgg195
 z64:=Tryz.sizeOf195
 v64:=Tryz.zeroValue195 }
end Go.Proofs

namespace Go.Am
open Go.Proofs Go.Sort Go.Shelf
theorem setCells_map (b:Nat):∀(vs:List Value) (o:Nat) (w:World),w.setCells b o vs=mapBlock w b (putL o vs)
 |[],o,w=>by
  unfold World.setCells mapBlock
  have:(onCells (putL o []))=id:=by
   funext x;cases x<;>rfl
  rw[this]
  have h:w.heap.modify b id=w.heap:=by
   apply Array.ext_getElem?;intro k;rw[Array.getElem?_modify];split
   ·cases w.heap[k]?<;>rfl
   ·rfl
  rw[h]
 |v::r,o,w=>by
  rw[World.setCells,setCell_eq,setCells_map b r (o+1),mapBlock_mapBlock];rfl
theorem setCells_putRow' {α:Type} [Inhabited α] (enc:α→Value) (l:List α) (b o:Nat) (w:World):w.setCells b o (l.map enc)=putRow enc w b o l.toArray:=by
 rw[setCells_map];unfold putRow
 congr 1
 funext c;apply Array.ext_getElem?;intro k;rw[putL_get];unfold putCells;rw[Array.getElem?_mapIdx];by_cases h2:k<c.size
 ·have e:c[k]?=some c[k]:=by simp
  rw[e];simp only[Option.map_some,List.length_map,List.size_toArray,h2,and_true];by_cases h:o≤k∧k<o+l.length
  ·rw[if_pos h,if_pos h,List.getElem?_map];have h3:k-o<l.length:=by omega
   rw[List.getElem?_eq_getElem h3];simp[h3]
  ·rw[if_neg h,if_neg h]
 ·rw[if_neg (by omega)];have e:c[k]?=none:=by simp;omega
  rw[e];rfl
theorem intsD_eq:∀{es:List Dat} {l:List Int},intsD es=some l→es=l.map fun n=>.int .i64 n
 |[],l,h=>by cases h;rfl
 |d::r,l,h=>by
  cases d with
  |int k n=>
   cases k with
   |i64=>
    simp only[intsD]at h;cases hr:intsD r with
    |none=>rw[hr]at h;cases h
    |some m=>
     rw[hr]at h;simp only[Option.map_some,Option.some.injEq]at h;subst h;rw[intsD_eq hr];rfl
   |_=>simp[intsD]at h
  |_=>simp[intsD]at h
theorem sort_ms (l:List Int):l.mergeSort (fun x y=>decide (x≤y))=sortS l:=by
 refine pw_uniq ?_ (sortS_pw l) ((List.mergeSort_perm l _).trans (zpd7 l).symm);have:=List.pairwise_mergeSort (le:=fun x y:Int=>decide (x≤y)) (fun a b c h1 h2=>by simp at *;omega) (fun a b=>by simp;omega) l;exact this.imp fun h=>by simpa using h
theorem keptB (w w':World) (h:RowKit.Below w.heap.size w w') (hf:∀a,a.block<w.heap.size→w'.frozen? a=w.frozen? a) (T:Cells):Kept w w' T:=
 ⟨⟨h.os,h.output,fun i hi=>by rw[h.block i hi];exact (World.keptBut_refl w _).2.2 i hi⟩,hf,h.size⟩
theorem frozen_grow (w:World) (os:Array Go.Obj) {a:Addr} (h:a.block<w.heap.size):(grow w os).frozen? a=w.frozen? a:=by
 unfold World.frozen? grow;simp only;rw[Array.getElem?_append_left h]
theorem flat_ints (F:Froz):∀l:List Int,FlatD F 1 (l.map fun n=>Dat.int .i64 n) (l.map (Value.int .i64))
 |[]=>rfl
 |n::r=>⟨[.int .i64 n],_,rfl,rfl,by simp[RepD],flat_ints F r⟩
theorem sortE_ok:zyd7 Tryz.prog (sortE 236):=by
 intro f args os v os' h;unfold sortE at h;split at h;rotate_left
 ·cases h
 rename_i hf;subst hf;split at h
 ·rename_i ver len ver' es;split at h;rotate_left
  ·cases h
  rename_i l hl;split at h;rotate_left
  ·cases h
  rename_i hc;obtain⟨rfl,rfl,hbd⟩:=hc;simp only[Option.some.injEq,Prod.mk.injEq]at h;obtain⟨rfl,rfl⟩:=h;refine .inl ⟨by decide,by kernel_rfl,?_⟩;intro C vals hρ hG hI hr;have hes:=intsD_eq hl;have hln:es.length=l.length:=by rw[hes,List.length_map]
  have hρ0:C.ρ ((0,0),0,0)=some (.arr 1 ver false es):=by rw[hρ];simp[flat,zpa7,flatR]
  simp only[RepL,RepA]at hr;obtain⟨c,cs',e1,⟨A,p,cap,a1,a2,e2,a4,a5,a6⟩,e3⟩:=hr;subst e3;have hA:A=⟨ver,1,es.length,C.μ ((0,0),0,0)⟩:=by simpa[arrAt,hρ0]using a1.symm
  subst hA;obtain⟨-,-,g3,g4⟩:=a6 rfl;obtain⟨o1,-,o3,-⟩:=hI.objs _ _ hρ0;obtain⟨own,oel⟩:=o3 rfl
  have hvals:vals=#[.slice p es.length cap]:=by
   apply Array.ext';rw[e1,e2]
  rw[hvals];rcases Nat.eq_zero_or_pos es.length with hz|hz
  ·have h0:es=[]:=List.eq_nil_of_length_eq_zero hz;have hl0:l=[]:=List.eq_nil_of_length_eq_zero (by omega);subst h0;subst hl0;refine (AnyM.slices_Sort_int_none TryzL.sort p cap C.w).mono ?_;rintro e w' ⟨rfl,rfl⟩;exact⟨_,C,rfl,rfl,hρ,hI,by simp[RepA,RepL],fun b o v h=>h,fun id L _ h=>h,fun id A _ h=>⟨A,h,Nat.le_refl _,fun _=>⟨rfl,rfl,Nat.le_refl _⟩⟩,fun id b _ h=>h⟩
  ·have hp:=g4 (by omega);subst hp;generalize hL:C.μ ((0,0),0,0)=L at *
   have hcell:∀j (hj:j<l.length),C.w.cell? ⟨L.b,L.o+j,none⟩=some (.int .i64 l[j]):=by
    intro j hj;have hd:es[j]?=some (.int .i64 l[j]):=by rw[hes];simp[hj]
    obtain⟨cs,q1,q2,q3⟩:=oel j _ hd;simp only[RepD]at q2;subst q2;have:=q3 0 _ rfl;simpa using this
   have hH:Holds (Value.int .i64) C.w (L.b) (L.o+0*1) l.toArray:=by
    intro j hj;have hj':j<l.length:=by simpa using hj
    have h1:=hcell j hj';obtain⟨-,h2,-⟩:=own j (by rw[g3];omega);refine⟨?_,by simpa using h2 (L.o+j)⟩;rw[show L.o+0*1+j=L.o+j by omega,h1];simp[hj']
   have hblk:L.b<C.w.heap.size:=by
    have:=World.block_lt_of_cell? _ _ (hcell 0 (by omega));simpa using this
   rw[hln];refine (AnyM.slices_Sort_int TryzL.sort L.b (L.o+0*1) cap l C.w hH hblk (by omega)).mono ?_;rintro e w' ⟨rfl,n,gs,rfl⟩;have hft:=flat_ints C.F (sortS l);obtain⟨hfit,hI1,hG1⟩:=arr_write hI hρ0 hft (off:=0) (by simp[(zpd7 l).length_eq];omega);rw[hL]at hI1 hG1;have hw:C.w.setCells L.b (L.o+0*1) ((sortS l).map (Value.int .i64))=putRow (Value.int .i64) C.w L.b (L.o+0*1) (sortS l).toArray:=setCells_putRow' _ _ _ _ _;rw[hw]at hI1 hG1;rw[sort_ms];generalize hw1:putRow (Value.int .i64) C.w L.b (L.o+0*1) (sortS l).toArray=w1 at *
   have hw2:grow (putRow (Value.int .i64) (Go.Sort.ahead C.w n) L.b (L.o+0*1) (sortS l).toArray) gs=grow (Go.Sort.ahead w1 n) gs:=by rw[←hw1];rfl
   rw[hw2]
   have hk:Kept w1 (grow (Go.Sort.ahead w1 n) gs) (fun _ _=>False):=keptB w1 (grow (Go.Sort.ahead w1 n) gs) ⟨rfl,rfl,rfl,by simp[grow,Go.Sort.ahead],fun k hk=>by
    show ((Go.Sort.ahead w1 n).heap++gs)[k]?=w1.heap[k]?
    rw[Array.getElem?_append_left (by simpa[Go.Sort.ahead]using hk)];rfl⟩ (fun a ha=>by rw[frozen_grow (Go.Sort.ahead w1 n) gs (by simpa[Go.Sort.ahead]using ha)];rfl) _
   obtain⟨hI2,hG2⟩:=hI1.plain (C':={ w:=grow (Go.Sort.ahead w1 n) gs,F:=C.F,μ:=C.μ,ρ:=updL C.ρ [(((0,0),0,0),.arr 1 ver false (splice es 0 ((sortS l).map fun n=>Dat.int .i64 n)))] }) hk (fun _ _ _ h=>h) (fun b o v h=>.inl h) (fun b o v h e=>by simp only at h e;rw[e]at h;cases h) rfl rfl;have hG:=hG1.trans hG2;refine⟨_,_,rfl,rfl,?_,hI2,by simp[RepA,RepL],hG.F,fun id L _ h=>hG.box id L trivial h,fun id A _ h=>hG.arr id A trivial h,fun id b _ h=>hG.blk id b trivial h⟩
   have hsp:splice es 0 ((sortS l).map fun n=>Dat.int .i64 n)=(sortS l).map fun n=>Dat.int .i64 n:=by
    unfold splice;rw[List.take_zero,List.nil_append,List.length_map,(zpd7 l).length_eq,List.drop_eq_nil_of_le (by omega),List.append_nil]
   rw[hsp,hρ];funext ⟨⟨a,b⟩,c,d⟩;simp only[updL,flat,zpa7];by_cases ha:a=0
   ·subst ha;cases b with
    |zero=>
     simp only[if_true,List.getElem?_cons_zero,flatR];by_cases hc:c=0∧d=0
     ·obtain⟨rfl,rfl⟩:=hc;simp
     ·rw[if_neg hc,if_neg hc,if_neg];simp only[Prod.mk.injEq,true_and];exact fun e=>hc ⟨e.1.symm,e.2.symm⟩
    |succ b=>simp
   ·rw[if_neg (by simp[ha,Ne.symm ha])];simp[ha]
 ·simp only[Option.some.injEq,Prod.mk.injEq]at h;obtain⟨rfl,rfl⟩:=h;refine .inl ⟨by decide,by kernel_rfl,?_⟩;intro C vals hρ hG hI hr;simp only[RepL,RepA]at hr;obtain⟨c,cs',e1,⟨p,e2⟩,e3⟩:=hr;subst e3
  have hvals:vals=#[.slice p 0 0]:=by
   apply Array.ext';rw[e1,e2]
  rw[hvals];refine (AnyM.slices_Sort_int_none TryzL.sort p 0 C.w).mono ?_;rintro e w' ⟨rfl,rfl⟩;exact⟨_,C,rfl,rfl,hρ,hI,by simp[RepA,RepL],fun b o v h=>h,fun id L _ h=>h,fun id A _ h=>⟨A,h,Nat.le_refl _,fun _=>⟨rfl,rfl,Nat.le_refl _⟩⟩,fun id b _ h=>h⟩
 ·cases h
end Go.Am

set_option maxRecDepth 10000
set_option maxHeartbeats 4000000
namespace Go.Am.E
open Go.Proofs
theorem tfE_ok:∀f fn,tfE f=some fn→∃an keep g,cFun Tryz.prog an keep f=some g∧fn={ g with split:=fn.split }:=by
 intro f fn h;unfold tfE at h;split at h
 ·cases h;exact⟨_,_,_,c5,rfl⟩
 ·cases h;exact⟨_,_,_,c9,rfl⟩
 ·cases h;exact⟨_,_,_,c17,rfl⟩
 ·cases h;exact⟨_,_,_,c21,rfl⟩
 ·cases h;exact⟨_,_,_,c22,rfl⟩
 ·cases h;exact⟨_,_,_,c23,rfl⟩
 ·cases h;exact⟨_,_,_,c24,rfl⟩
 ·cases h;exact⟨_,_,_,c25,rfl⟩
 ·cases h;exact⟨_,_,_,c26,rfl⟩
 ·cases h;exact⟨_,_,_,c29,rfl⟩
 ·cases h;exact⟨_,_,_,c32,rfl⟩
 ·cases h;exact⟨_,_,_,c34,rfl⟩
 ·cases h;exact⟨_,_,_,c35,rfl⟩
 ·cases h;exact⟨_,_,_,c36,rfl⟩
 ·cases h;exact⟨_,_,_,c37,rfl⟩
 ·cases h;exact⟨_,_,_,c41,rfl⟩
 ·cases h;exact⟨_,_,_,c42,rfl⟩
 ·cases h;exact⟨_,_,_,c43,rfl⟩
 ·cases h;exact⟨_,_,_,c44,rfl⟩
 ·cases h;exact⟨_,_,_,c45,rfl⟩
 ·cases h;exact⟨_,_,_,c59,rfl⟩
 ·cases h;exact⟨_,_,_,c60,rfl⟩
 ·cases h;exact⟨_,_,_,c61,rfl⟩
 ·cases h;exact⟨_,_,_,c62,rfl⟩
 ·cases h;exact⟨_,_,_,c63,rfl⟩
 ·cases h;exact⟨_,_,_,c64,rfl⟩
 ·cases h;exact⟨_,_,_,c65,rfl⟩
 ·cases h;exact⟨_,_,_,c66,rfl⟩
 ·cases h;exact⟨_,_,_,c67,rfl⟩
 ·cases h;exact⟨_,_,_,c68,rfl⟩
 ·cases h;exact⟨_,_,_,c69,rfl⟩
 ·cases h;exact⟨_,_,_,c70,rfl⟩
 ·cases h;exact⟨_,_,_,c71,rfl⟩
 ·cases h;exact⟨_,_,_,c72,rfl⟩
 ·cases h;exact⟨_,_,_,c73,rfl⟩
 ·cases h;exact⟨_,_,_,c74,rfl⟩
 ·cases h;exact⟨_,_,_,c75,rfl⟩
 ·cases h;exact⟨_,_,_,c76,rfl⟩
 ·cases h;exact⟨_,_,_,c77,rfl⟩
 ·cases h;exact⟨_,_,_,c78,rfl⟩
 ·cases h;exact⟨_,_,_,c79,rfl⟩
 ·cases h;exact⟨_,_,_,c80,rfl⟩
 ·cases h;exact⟨_,_,_,c81,rfl⟩
 ·cases h;exact⟨_,_,_,c90,rfl⟩
 ·cases h;exact⟨_,_,_,c91,rfl⟩
 ·cases h;exact⟨_,_,_,c92,rfl⟩
 ·cases h;exact⟨_,_,_,c93,rfl⟩
 ·cases h;exact⟨_,_,_,c94,rfl⟩
 ·cases h;exact⟨_,_,_,c95,rfl⟩
 ·cases h;exact⟨_,_,_,c96,rfl⟩
 ·cases h;exact⟨_,_,_,c97,rfl⟩
 ·cases h;exact⟨_,_,_,c98,rfl⟩
 ·cases h;exact⟨_,_,_,c99,rfl⟩
 ·cases h;exact⟨_,_,_,c100,rfl⟩
 ·cases h;exact⟨_,_,_,c101,rfl⟩
 ·cases h;exact⟨_,_,_,c102,rfl⟩
 ·cases h;exact⟨_,_,_,c103,rfl⟩
 ·cases h;exact⟨_,_,_,c104,rfl⟩
 ·cases h;exact⟨_,_,_,c105,rfl⟩
 ·cases h;exact⟨_,_,_,c124,rfl⟩
 ·cases h;exact⟨_,_,_,c125,rfl⟩
 ·cases h;exact⟨_,_,_,c126,rfl⟩
 ·cases h;exact⟨_,_,_,c127,rfl⟩
 ·cases h;exact⟨_,_,_,c128,rfl⟩
 ·cases h;exact⟨_,_,_,c129,rfl⟩
 ·cases h;exact⟨_,_,_,c130,rfl⟩
 ·cases h;exact⟨_,_,_,c131,rfl⟩
 ·cases h;exact⟨_,_,_,c132,rfl⟩
 ·cases h;exact⟨_,_,_,c133,rfl⟩
 ·cases h;exact⟨_,_,_,c134,rfl⟩
 ·cases h;exact⟨_,_,_,c135,rfl⟩
 ·cases h;exact⟨_,_,_,c136,rfl⟩
 ·cases h;exact⟨_,_,_,c137,rfl⟩
 ·cases h;exact⟨_,_,_,c138,rfl⟩
 ·cases h;exact⟨_,_,_,c139,rfl⟩
 ·cases h;exact⟨_,_,_,c140,rfl⟩
 ·cases h;exact⟨_,_,_,c141,rfl⟩
 ·cases h;exact⟨_,_,_,c142,rfl⟩
 ·cases h;exact⟨_,_,_,c143,rfl⟩
 ·cases h;exact⟨_,_,_,c144,rfl⟩
 ·cases h;exact⟨_,_,_,c155,rfl⟩
 ·cases h;exact⟨_,_,_,c156,rfl⟩
 ·cases h;exact⟨_,_,_,c157,rfl⟩
 ·cases h;exact⟨_,_,_,c158,rfl⟩
 ·cases h;exact⟨_,_,_,c159,rfl⟩
 ·cases h;exact⟨_,_,_,c160,rfl⟩
 ·cases h;exact⟨_,_,_,c161,rfl⟩
 ·cases h;exact⟨_,_,_,c162,rfl⟩
 ·cases h;exact⟨_,_,_,c163,rfl⟩
 ·cases h;exact⟨_,_,_,c166,rfl⟩
 ·cases h;exact⟨_,_,_,c167,rfl⟩
 ·cases h;exact⟨_,_,_,c168,rfl⟩
 ·cases h;exact⟨_,_,_,c169,rfl⟩
 ·cases h;exact⟨_,_,_,c170,rfl⟩
 ·cases h;exact⟨_,_,_,c171,rfl⟩
 ·cases h;exact⟨_,_,_,c172,rfl⟩
 ·cases h;exact⟨_,_,_,c173,rfl⟩
 ·cases h;exact⟨_,_,_,c174,rfl⟩
 ·cases h;exact⟨_,_,_,c175,rfl⟩
 ·cases h;exact⟨_,_,_,c176,rfl⟩
 ·cases h;exact⟨_,_,_,c177,rfl⟩
 ·cases h;exact⟨_,_,_,c178,rfl⟩
 ·cases h;exact⟨_,_,_,c201,rfl⟩
 ·cases h;exact⟨_,_,_,c202,rfl⟩
 ·cases h;exact⟨_,_,_,c203,rfl⟩
 ·cases h;exact⟨_,_,_,c204,rfl⟩
 ·cases h;exact⟨_,_,_,c205,rfl⟩
 ·cases h;exact⟨_,_,_,c206,rfl⟩
 ·cases h;exact⟨_,_,_,c207,rfl⟩
 ·cases h;exact⟨_,_,_,c208,rfl⟩
 ·cases h;exact⟨_,_,_,c209,rfl⟩
 ·cases h;exact⟨_,_,_,c210,rfl⟩
 ·cases h;exact⟨_,_,_,c211,rfl⟩
 ·cases h;exact⟨_,_,_,c212,rfl⟩
 ·cases h;exact⟨_,_,_,c213,rfl⟩
 ·cases h;exact⟨_,_,_,c214,rfl⟩
 ·cases h;exact⟨_,_,_,c222,rfl⟩
 ·cases h;exact⟨_,_,_,c223,rfl⟩
 ·cases h;exact⟨_,_,_,c224,rfl⟩
 ·cases h;exact⟨_,_,_,c225,rfl⟩
 ·cases h;exact⟨_,_,_,c230,rfl⟩
 ·cases h;exact⟨_,_,_,c233,rfl⟩
 ·cases h;exact⟨_,_,_,c234,rfl⟩
 ·cases h;exact⟨_,_,_,c235,rfl⟩
 ·cases h;exact⟨_,_,_,c237,rfl⟩
 ·cases h;exact⟨_,_,_,c246,rfl⟩
 ·cases h;exact⟨_,_,_,c247,rfl⟩
 ·cases h;exact⟨_,_,_,c248,rfl⟩
 ·cases h;exact⟨_,_,_,c249,rfl⟩
 ·cases h;exact⟨_,_,_,c250,rfl⟩
 ·cases h;exact⟨_,_,_,c251,rfl⟩
 ·cases h;exact⟨_,_,_,c263,rfl⟩
 ·cases h;exact⟨_,_,_,c264,rfl⟩
 ·cases h
theorem lpE_ok:∀k lp,lpE k=some lp→∃an,cLoop Tryz.prog an k=some lp:=by
 intro k lp h;unfold lpE at h;split at h
 ·cases h;exact⟨_,cl138⟩
 ·cases h
theorem lawV_ok:zyd7 Tryz.prog (fun f args os=>match insV f args os with
 |some r=>some r
 |none=>sortE 236 f args os):=by
 intro f args os v os' h;dsimp only at h;split at h
 ·rename_i r hr;cases h;exact insV_ok _ _ _ _ _ hr
 ·exact sortE_ok _ _ _ _ _ h
theorem tblE_ok (h5:EntOK Tryz.prog ⟨11,[],.dat (.bool true)⟩):TblOK Tryz.prog tblE:=
 ⟨fun f fn h=>tfE_ok f fn h,memoL_ok (fun e he=>by rcases List.mem_singleton.1 he with rfl;exact h5) lawV_ok,lpE_ok,fun f fn c st h1 h2 h3=>by simp only[Glob.lps,h1,h2,h3],by kernel_rfl⟩
end Go.Am.E

set_option maxRecDepth 10000
namespace Go.Am
open Go.Proofs
abbrev A (i:Nat) (l d:List Nat) (m:List (Nat×Mk)):RAnn:=⟨i,l,d,m⟩
abbrev A0 (i:Nat) (l:List Nat):RAnn:=⟨i,l,[],[]⟩
def getF {α:Type} [Inhabited α] (o:Option α):α:=o.getD default
theorem getF_eq {α:Type} [Inhabited α] {o:Option α} (h:o.isSome=true):o=some (getF o):=by
 cases o with
 |none=>cases h
 |some a=>rfl
noncomputable def mF (a:Ann) (k:Bool) (f:Nat):AFun:=getF (cFun Tryz.prog a k f)
noncomputable def S (a:Ann) (k:Bool) (f:Nat):Bool:=(cFun Tryz.prog a k f).isSome
theorem mS {a:Ann} {k:Bool} {f:Nat} (h:S a k f=true):cFun Tryz.prog a k f=some (mF a k f):=getF_eq h
def a11:Ann:=[A0 0 [],A0 1 [],A 2 [1] [] [(4,⟨.d,[0]⟩)],A0 3 [1,2,3],A0 4 [],A 5 [1,2] [] [(3,⟨.d,[0]⟩)],A 6 [1,2,4,5,6] [] [(3,⟨.d,[0]⟩)],A0 7 [1,4,5,6,9],A0 8 [],A0 9 [1,4]]
theorem o11:S a11 false 11=true:=by kernel_rfl
def a12:Ann:=[A0 0 [0,1],A0 1 [0,1],A0 2 [],A0 3 [0,1],A0 4 [0,1,5],A0 6 [0,1,5],A0 7 [],A0 5 [0,1,5],A0 8 []]
theorem o12:S a12 false 12=true:=by kernel_rfl
def a13:Ann:=[A0 0 [0,1,2],A0 1 [2,3,4],A0 2 [],A0 3 [2,3,4],A0 4 [3,4,7,8],A0 5 [],A0 6 [3,4,7]]
theorem o13:S a13 false 13=true:=by kernel_rfl
def a15:Ann:=[A0 0 [0,1],A0 1 [2,3],A0 2 [],A0 3 [2,3]]
theorem o15:S a15 false 15=true:=by kernel_rfl
def a27:Ann:=[A0 0 [0,1,2],A0 1 [1,2,3,6],A0 2 [1,2,3,6,8,9],A0 3 [6,9],A0 4 [1,2,3,6,8],A0 5 [6],A0 6 [1,2,3,6,8],A 7 [1,3,6,8,26,27,28] [3,6,8,26] [],A0 8 [1,3,6,8,26,27,28],A 9 [1,3,6,8,11,26,27,28] [] [(4,⟨.d,[0]⟩)],A0 10 [1,3,6,8,9,26,27,28],A0 11 [6,9],A0 12 [1,3,6,8,26,27,28],A0 13 [6,8]]
theorem o27:S a27 false 27=true:=by kernel_rfl
def a33:Ann:=[A0 0 [],A0 1 [0],A0 2 [0,1],A 3 [0,1,2] [] [(2,⟨.o,[]⟩),(7,⟨.o,[]⟩),(10,⟨.o,[]⟩)]]
theorem o33:S a33 true 33=true:=by kernel_rfl
def a40:Ann:=[A0 0 [0,1],A 1 [2,3] [] [(0,⟨.o,[]⟩)],A0 2 [2,3,5],A 3 [2,3,5,9,10,11] [2,3,5,9] [],A0 4 [2,3,5,9,10,11],A0 5 [2,3,5,6,7,9,10,11],A 6 [2,3,5,7,9,10,11] [] [(4,⟨.o,[]⟩)],A0 7 [2,3,5,9,10,11],A0 8 [5]]
theorem o40:S a40 false 40=true:=by kernel_rfl
end Go.Am

set_option maxRecDepth 10000
set_option maxHeartbeats 4000000
namespace Go.Am
open Go.Proofs
noncomputable def tfY:FuncId→Option AFun
 |11=>some (mF a11 false 11)
 |12=>some (mF a12 false 12)
 |13=>some (mF a13 false 13)
 |15=>some (mF a15 false 15)
 |27=>some (mF a27 false 27)
 |33=>some (mF a33 true 33)
 |40=>some (mF a40 false 40)
 |_=>none
noncomputable def tfX (f:FuncId):Option AFun:=match E.tfE f with
 |some fn=>some fn
 |none=>tfY f
noncomputable def tlX:Nat→Option ALoop
 |138=>some E.lp138
 |_=>none
theorem tfX_ok:∀f fn,tfX f=some fn→∃an keep g,cFun Tryz.prog an keep f=some g∧fn={ g with split:=fn.split }:=by
 intro f fn h;unfold tfX at h;split at h
 ·rename_i fn' h';cases h;exact E.tfE_ok _ _ h'
 unfold tfY at h;split at h
 ·cases h;exact⟨_,_,_,mS o11,rfl⟩
 ·cases h;exact⟨_,_,_,mS o12,rfl⟩
 ·cases h;exact⟨_,_,_,mS o13,rfl⟩
 ·cases h;exact⟨_,_,_,mS o15,rfl⟩
 ·cases h;exact⟨_,_,_,mS o27,rfl⟩
 ·cases h;exact⟨_,_,_,mS o33,rfl⟩
 ·cases h;exact⟨_,_,_,mS o40,rfl⟩
 ·cases h
theorem tlX_ok:∀k lp,tlX k=some lp→∃an,cLoop Tryz.prog an k=some lp:=by
 intro k lp h;unfold tlX at h;split at h
 ·cases h;exact⟨_,E.cl138⟩
 ·cases h
theorem tfX_y:tfX YID=none:=by kernel_rfl
end Go.Am
