/- Parts of the proofs of the statement, joined and made short: EW30 EW31 EW32 EW33 V10 V7 V14 V15 V16 V17. -/
import Derived.Test.YtmoibjjpfemgjaaGreatDoorP29
import Derived.Test.YtmoibjjpfemgjaaGreatDoorP28
set_option linter.unusedVariables false
set_option linter.unusedSimpArgs false
set_option linter.unusedSectionVars false
set_option maxRecDepth 10000
set_option maxHeartbeats 8000000
namespace Go.Am.E
open Go.Proofs Go.Ex Go.Rc
def memP (e:Int) (m:Me):AVal:=if e=0 then .tup [.dat (MD m),.dat (N 0)] else .tup [.dat MD0,.dat (N e)]
theorem kids (qs:List (List Int)):(qs.map ownC).all Cell.fresh=true∧(qs.map ownC).map Cell.dat=qs.map Ns:=by
 constructor
 ·rw[List.all_eq_true];intro c hc;obtain⟨q,-,rfl⟩:=List.mem_map.1 hc;rfl
 ·rw[List.map_map];rfl
theorem fresh_own (qs:List (List Int)):(qs.map ownC).all Cell.fresh=true:=(kids qs).1
theorem dat_own (qs:List (List Int)):(qs.map ownC).map Cell.dat=qs.map Ns:=(kids qs).2
theorem rowsA_own (r:RId) (pv:Nat):∀(qs:List (List Int)) (i k:Nat) (q:List Int),qs[k]?=some q→(rowsA r pv i (qs.map ownC))[k]?=some [.rsl (r,i+k+1,0) pv 1 0 q.length]
 |a::qs,i,0,q,h=>by
  obtain rfl:=Option.some.inj h;simp[rowsA,cellA]
 |a::qs,i,k+1,q,h=>by
  have:=rowsA_own r pv qs (i+1) k q h;simp only[List.map_cons,rowsA,List.getElem?_cons_succ,this];rw[show i+1+k=i+(k+1) by omega]
theorem rowsA_own' (r:RId) (pv:Nat) {qs:List (List Int)} {k:Nat} {q:List Int} (h:qs[k]?=some q) (hk:k<(rowsA r pv 0 (qs.map ownC)).length):(rowsA r pv 0 (qs.map ownC))[k]=[.rsl (r,k+1,0) pv 1 0 q.length]:=by
 have:=rowsA_own r pv qs 0 k q h;rw[Nat.zero_add,List.getElem?_eq_getElem hk]at this;exact Option.some.inj this
theorem fresh_set (qs:List (List Int)) (k:Nat) (L:List Dat):((qs.map ownC).set k (.own true false 1 L)).all Cell.fresh=true:=by
 rw[List.all_eq_true];intro c hc;rcases List.mem_or_eq_of_mem_set hc with h|h
 ·exact List.all_eq_true.1 (fresh_own qs) c h
 ·rw[h];rfl
theorem dat_comp:(Cell.dat∘ownC)=Ns:=rfl
theorem run222 (m:Me) (h:Mb m) (i id fr to:Int):K 222 [.dat (MD m),.dat (N i),.dat (N id),.dat (N fr),.dat (N to)] []=some (memP (ownE m i id fr) (ownM m i to),[]):=by
 have h1:=run213 m h i m.ow.length;have h2:=run65 m h;refine ce rfl ?_;unfold memP ownE ownM;rcases Classical.propComplete (inE m i m.ow.length=0) with c1|c1
 ·obtain⟨-,g1,g2⟩:=inE_ok (by rw[c1];trivial:inE m i m.ow.length=0);obtain⟨k,hk,k1,k2,k3,k4⟩:=geti_get g1 g2;generalize geti m.ow i=v at *
  subst hk;by_cases c2:id<0
  ·simp[h1,c1,c2]
  ·by_cases c3:v=fr
   ·subst c3;simp[h1,h2,c1,c2,k1,k2,k3,k4,fresh_own,dat_own]
   ·simp[h1,c1,c2,c3,k1,k2,k3,k4]
 ·simp[h1,c1]
theorem run158 (m:Me) (h:Mb m) (i id:Int):K 158 [.dat (MD m),.dat (N i),.dat (N id)] []=some (memP (ownE m i id (-1)) (ownM m i id),[]):=by
 have h1:=run222 m h i id (-1) id;refine ce rfl ?_;unfold memP at *
 rcases Classical.propComplete (ownE m i id (-1)=0) with c1|c1<;>simp[c1]at h1<;>simp[h1,c1]
theorem run156 (m:Me) (h:Mb m) (i id:Int):K 156 [.dat (MD m),.dat (N i),.dat (N id)] []=some (memP (ownE m i id id) (ownM m i (-1)),[]):=by
 have h1:=run222 m h i id id (-1);refine ce rfl ?_;unfold memP at *
 rcases Classical.propComplete (ownE m i id id=0) with c1|c1<;>simp[c1]at h1<;>simp[h1,c1]
theorem run159 (m:Me) (h:Mb m) (c id:Int):K 159 [.dat (MD m),.dat (N c),.dat (N id)] []=some (memP (enqE m c id) (enqM m c id),[]):=by
 have h1:=run213 m h c m.qu.length;have h2:=run65 m h;have h3:=run223 m h id;refine ce rfl ?_;unfold memP enqE enqM;rcases Classical.propComplete (inE m c m.qu.length=0) with c1|c1
 ·obtain⟨-,g1,g2⟩:=inE_ok (by rw[c1];trivial:inE m c m.qu.length=0);by_cases c2:id<0
  ·simp[h1,c1,c2]
  ·generalize (m.qu.any (·.contains id)||m.sg.contains id)=R at *
   cases R
   ·obtain⟨q,q1,q2⟩:=zad7 m.qu (i:=c.toNat) (by omega);obtain⟨k,rfl⟩:∃k:Nat,c=k:=⟨c.toNat,by omega⟩;have hq:getq m k=q:=by unfold getq;rw[q1];rfl
    have k1:k<m.qu.length:=by omega
    have hl:=h.qs q (List.mem_of_getElem? q1);have r:(q.length+1)*9≤1099511627776:=by omega
    have q1':=q1;simp at q1 q2 q1';simp[h1,h2,h3,c1,c2,k1,g2,q1,q2,hq,r,rowsA_own' (29,2) m.qu.length q1',rowsA_own (29,2) m.qu.length m.qu 0 k q q1',kidO,fresh_set,dat_comp];rw[Ns,List.map_append];rfl
   ·simp[h1,h3,c1,c2]
 ·simp[h1,c1]
end Go.Am.E

set_option maxRecDepth 10000
set_option maxHeartbeats 8000000
namespace Go.Am.E
open Go.Proofs Go.Ex Go.Rc
abbrev X331 (m:Me) (S:List Int) (v:Nat) (A:List Int):zsa7:=[((7,0),nil4),((11,0),.plain (.box [.rsl ((11,1),0,0) 0 1 0 m.va.length,.rsl ((11,2),0,0) 0 1 0 m.ow.length,.rsl ((11,3),0,0) 0 1 0 m.qu.length,.rsl ((11,4),0,0) v 1 0 S.length])),
 ((11,3),.fam 0 m.qu.length false (m.qu.map ownC)),((11,1),aI 0 m.va),((11,2),aI 0 m.ow),((11,4),aI v A)]
abbrev E331 (m:Me) (c n k:Nat):Env:=[(1,.dat (N c)),(2,.dat (N n)),(6,.ref ((7,0),0,0) 0),(10,.ref ((11,0),0,0) 0),(39,.rsl ((11,3),c+1,0) m.qu.length 1 0 n),(40,.dat (N n)),(41,.dat (N k))]
def wk (S:List Int) (l:List Int):List Int:=l.foldl (fun s i=>ins i s) S
def Q331 (m:Me) (c n:Nat) (S:List Int) (q:AEx×St):Prop:=q.1=.exit 0∧∃(v:Nat) (A:List Int),A.take S.length=S∧S.length≤A.length∧hd [1,2,6,10] [] q.2=some ⟨(E331 m c n 0).take 4,X331 m S v A⟩
theorem pw_incr:∀{l:List Int},l.Pairwise (·<·)→incr l=true
 |[],_=>rfl
 |[a],_=>rfl
 |a::b::r,h=>by
  have h':=List.pairwise_cons.1 h;simp only[incr,Bool.and_eq_true,decide_eq_true_eq];exact⟨h'.1 b (by simp),pw_incr h'.2⟩
theorem loop225 (m:Me) (c n:Nat) (q:List Int) (hq:m.qu[c]?=some q) (hn:n≤q.length) (hn2:n<1000000000):∀(r k:Nat) (S:List Int) (v:Nat) (A:List Int) (s:St),k+r=n→S.length+r<1000000000→incr S=true→A.take S.length=S→S.length≤A.length→A.length<1000000000000→
  hd [1,2,6,10,39,40,41] [6,10,39] s=some ⟨E331 m c n k,X331 m S v A⟩→Ev (zga7 (exec K l225_0) s) (Q331 m c n (wk S ((q.take n).drop k)))
 |0,k,S,v,A,s,hk,hS,hi,hA,hA2,hA3,hs=>by
  have e:(q.take n).drop k=[]:=List.drop_of_length_le (by simp;omega);have h1:¬((k:Int)<n):=by omega
  apply zya7;simp[hs,h1,Q331,e,wk];exact⟨v,A,hA,hA2,rfl,rfl⟩
 |r+1,k,S,v,A,s,hk,hS,hi,hA,hA2,hA3,hs=>by
  obtain⟨y,y1,y2⟩:=zad7 q (i:=k) (by omega);have e0:(q.take n)[k]?=some y:=by rw[List.getElem?_take,if_pos (by omega),y1]
  have e:=zwb7 e0;have h1:(k:Int)<n:=by omega
  have ix:Ix k:=by unfold Ix;omega
  obtain⟨w,B,b1,b2,b3,b4⟩:=run104 S y (by omega) hi;have e2:wk S ((q.take n).drop k)=wk (ins y S) ((q.take n).drop (k+1)):=by rw[e];rfl
  have hin:=ins_len y S;have hi':incr (ins y S)=true:=pw_incr (ins_pw y (incr_pw hi)).1;have q3:=hq;have k1:=(List.getElem?_eq_some_iff.1 hq).1;have q4:=(List.getElem?_eq_some_iff.1 hq).2;rw[e2];apply zya7;simp[hs,h1,ix,hq,q4,k1,y1,kidO,hA2,hA,←List.map_take,b1];exact loop225 m c n q hq hn hn2 r (k+1) (ins y S) w B _ (by omega) (by omega) hi' b2 b3 b4 (by simp)
def wakP (e:Int) (m:Me) (n:Nat):AVal:=if e=0 then .tup [.dat (MD m),.dat (N n),.dat (N 0)] else .tup [.dat MD0,.dat (N 0),.dat (N e)]
theorem run225 (m:Me) (h:Mb m) (c n:Int) (hn:0≤n) (hb:m.sg.length+(getq m c).length<1000000000):
  K 225 [.dat (MD m),.dat (N c),.dat (N n)] []=some (wakP (inE m c m.qu.length) (wakM m c (min n.toNat (getq m c).length)) (min n.toNat (getq m c).length),[]):=by
 have h1:=run213 m h c m.qu.length;have h2:=run65 m h;refine ce rfl ?_;unfold wakP;rcases Classical.propComplete (inE m c m.qu.length=0) with c1|c1
 ·obtain⟨hfm,g1,g2⟩:=inE_ok (by rw[c1];trivial:inE m c m.qu.length=0);obtain⟨q,q1,q2⟩:=zad7 m.qu (i:=c.toNat) (by omega);obtain⟨k,rfl⟩:∃k:Nat,c=k:=⟨c.toNat,by omega⟩;have hq:getq m k=q:=by unfold getq;rw[q1];rfl
  rw[hq]at hb
  have hi:incr m.sg=true:=by
   rw[frmM_eq]at hfm;simp only[Bool.and_eq_true]at hfm;exact hfm.1.1.1.2
  generalize hw:min n.toNat q.length=w;have e:(if (q.length:Int)<n then (q.length:Int) else n)=w:=by split<;>omega
  have k1:k<m.qu.length:=by omega
  have w1:(w:Int)≤q.length:=by omega
  have hl:=h.qs q (List.mem_of_getElem? q1);have g5:=run134 (q.drop w) (by simp;omega);have q1':=q1;simp at q1 q2 q1';have w2:((q.length:Int)-w).toNat=q.length-w:=by omega
  have w3:q.length-w≤q.length-w:=Nat.le_refl _;have w4:w+(q.length-w)≤q.length:=by omega
  simp[Ns,List.map_drop]at g5;have e5:List.take (q.length-w) (List.drop w (q.map N))=List.drop w (q.map N):=List.take_of_length_le (by simp);unfold wakM;rw[hq];simp[h1,h2,c1,k1,g2,q1,q2,hq,rowsA_own' (25,2) m.qu.length q1',rowsA_own (25,2) m.qu.length m.qu 0 k q q1',kidO,e,w1,hw];simp only[zaa7];refine (loop225 m k w q q1' (by omega) (by omega) w 0 m.sg 0 m.sg _ (by omega) (by omega) hi (by simp) (by simp) (by have:=h.sg;omega) (by simp[h1,h2,c1,k1,g2,q1,q2,hq,rowsA_own' (25,2) m.qu.length q1',rowsA_own (25,2) m.qu.length m.qu 0 k q q1',kidO,e,w1])).mono ?_;rintro⟨y,s⟩ ⟨rfl,v,A,b1,b2,hs⟩;simp only[List.drop_zero]at hs b1 b2;simp[hs,k1,q1,q2,rowsA_own' (11,3) m.qu.length q1',rowsA_own (11,3) m.qu.length m.qu 0 k q q1',kidO,w1,w2,w4,g5,e5,fresh_set,dat_comp,b1,b2,←List.map_take];simp[wk,Ns]
 ·simp[h1,c1]
theorem run161 (m:Me) (h:Mb m) (c:Int) (hb:m.sg.length+(getq m c).length<1000000000):
  K 161 [.dat (MD m),.dat (N c)] []=some (wakP (inE m c m.qu.length) (wakM m c (min 1 (getq m c).length)) (min 1 (getq m c).length),[]):=by
 have h1:=run225 m h c 1 (by omega) hb;refine ce rfl ?_;simp only[Int.toNat_one]at h1;unfold wakP at *
 rcases Classical.propComplete (inE m c m.qu.length=0) with c1|c1<;>simp[c1]at h1<;>simp[h1,c1]
def mxQ (qs:List (List Int)):Nat:=qs.foldl (fun a q=>max a q.length) 0
theorem mxQ_take {qs:List (List Int)} {i:Nat} {q:List Int} (h:qs[i]?=some q):mxQ (qs.take (i+1))=max (mxQ (qs.take i)) q.length:=by
 unfold mxQ;rw[zpe7 h,List.foldl_append];rfl
theorem mxQ_le:∀(qs:List (List Int)) (a:Nat),a≤qs.foldl (fun a q=>max a q.length) a∧∀q∈qs,q.length≤qs.foldl (fun a q=>max a q.length) a
 |[],a=>⟨Nat.le_refl _,by simp⟩
 |x::r,a=>by
  obtain⟨h1,h2⟩:=mxQ_le r (max a x.length);refine⟨by simp only[List.foldl_cons];omega,fun q hq=>?_⟩;simp only[List.foldl_cons];rcases List.mem_cons.1 hq with rfl|hq
  ·omega
  ·exact h2 q hq
theorem run162 (m:Me) (h:Mb m) (c:Int) (hb:m.sg.length+(getq m c).length<1000000000):
  K 162 [.dat (MD m),.dat (N c)] []=some (wakP (inE m c m.qu.length) (wakM m c (getq m c).length) (getq m c).length,[]):=by
 have h1:=run225 m h c (mxQ m.qu) (by omega) hb
 have e:inE m c m.qu.length=0→min (mxQ m.qu) (getq m c).length=(getq m c).length:=by
  intro h0;obtain⟨-,g1,g2⟩:=inE_ok h0;obtain⟨q,q1,q2⟩:=zad7 m.qu (i:=c.toNat) (by omega);have hq:getq m c=q:=by unfold getq;rw[q1];rfl
  have:=(mxQ_le m.qu 0).2 q (List.mem_of_getElem? q1);rw[hq];unfold mxQ;omega
 refine ce rfl ?_;simp;simp only[zaa7]
 refine (zeb7 (live:=[1,2,4,7,11,12,13]) (drop:=[]) m.qu (by have:=h.qu;omega) (fun k=>⟨[(1,.dat (N c)),(2,.ref ((3,0),0,0) 0),(4,.ref ((5,0),0,0) 0),(7,.dat (N (mxQ (m.qu.take k)))),(11,.dat (.sl (m.qu.map Ns))),(12,.dat (N m.qu.length)),(13,.dat (N k))],[((3,0),mbox m),((5,0),nil4)]⟩)
  (fun _ q=>q.1=.exit 0∧hd [1,2,4,7] [] q.2=some ⟨[(1,.dat (N c)),(2,.ref ((3,0),0,0) 0),(4,.ref ((5,0),0,0) 0),(7,.dat (N (mxQ m.qu)))],[((3,0),mbox m),((5,0),nil4)]⟩)
  (fun i y s g1 g2 g3 ix hs=>?_) (fun s hs=>?_) _ (by simp[mxQ])).mono ?_
 ·have e2:=mxQ_take g1;have e3:(if mxQ (m.qu.take i)<y.length then (y.length:Int) else (mxQ (m.qu.take i):Nat))=(mxQ (m.qu.take (i+1)):Nat):=by rw[e2];split<;>omega
  simp[hs,g1,g2,g3,ix,e3]
 ·simp[hs]
 ·rintro⟨y,s⟩ ⟨rfl,hs⟩;rw[Int.toNat_natCast]at h1;unfold wakP at *
  rcases Classical.propComplete (inE m c m.qu.length=0) with c1|c1
  ·rw[e (by rw[c1];trivial)]at h1;simp[c1]at h1;simp[hs,h1,c1]
  ·simp[c1]at h1;simp[hs,h1,c1]
theorem run160 (m:Me) (h:Mb m) (id:Int):K 160 [.dat (MD m),.dat (N id)] []=some (memP (wakE m id) (wokM m id),[]):=by
 have h1:=run140 m h;have h2:=run65 m h;have h3:=run224 m.sg id (by have:=h.sg;omega);refine ce rfl ?_;unfold memP wakE wokM;cases c1:frmM m<;>rw[c1]at h1
 ·simp[h1]
 ·have hi:incr m.sg=true:=by
   rw[frmM_eq]at c1;simp only[Bool.and_eq_true]at c1;exact c1.1.1.1.2
  have h4:=run105 m.sg id (by have:=h.sg;omega) hi;cases c2:m.sg.contains id<;>rw[c2]at h3
  ·simp[h1,h3]
  ·simp[h1,h2,h3,h4,fresh_own,dat_own]
end Go.Am.E

set_option maxRecDepth 10000
set_option maxHeartbeats 8000000
namespace Go.Am.E
open Go.Proofs Go.Ex Go.Rc
abbrev qA (n:Nat):TObj:=.plain (.arr 1 0 false (List.replicate n (.sl [])))
abbrev pbox (p:Pg):TObj:=.plain (.box ((PDl p).map AVal.dat))
abbrev iv (p:Pg):List Int:=p.vs.map (·.2)
abbrev E183 (p:Pg) (k:Nat):Env:=[(1,.ref ((2,0),0,0) 0),(2,.ref ((3,0),0,0) 0),(7,.ref ((8,0),0,0) 0),(26,.dat (.sl (p.vs.map VD))),(27,.dat (N p.vs.length)),(28,.dat (N k))]
def X183 (p:Pg):Nat→zsa7
 |0=>[((2,0),pbox p),((3,0),nil4),((8,0),.plain (.box [.nils,.nils,.rsl ((8,1),0,0) 0 1 0 p.cs.length,.nils])),((8,1),qA p.cs.length)]
 |k+1=>[((2,0),pbox p),((3,0),nil4),((8,0),.plain (.box [.rsl ((8,1),0,0) k 1 0 (k+1),.nils,.rsl ((8,2),0,0) 0 1 0 p.cs.length,.nils])),((8,1),aI k ((iv p).take (k+1))),((8,2),qA p.cs.length)]
theorem loop59_0 (p:Pg) (hl:p.vs.length<100000000) (s:St) (hs:hd [1,2,7,26,27,28] [1,2,7,26] s=some ⟨E183 p 0,X183 p 0⟩):
  Ev (zga7 (exec K l59_0) s) fun q=>q.1=.exit 0∧hd [1,2,7] [] q.2=some ⟨(E183 p 0).take 3,X183 p p.vs.length⟩:=by
 refine zeb7 (live:=[1,2,7,26,27,28]) (drop:=[1,2,7,26]) p.vs (by omega) (fun k=>⟨E183 p k,X183 p k⟩) (fun _ q=>q.1=.exit 0∧hd [1,2,7] [] q.2=some ⟨(E183 p 0).take 3,X183 p p.vs.length⟩)
  (fun i y s h1 h2 h3 ix hs=>?_) (fun s hs=>?_) s hs
 ·have e:=zpe7 (l:=iv p) (i:=i) (x:=y.2) (by simp[h1]);obtain⟨n,v⟩:=y;cases i with
  |zero=>
   simp[X183,E183]at hs;have h4:0<p.vs.length:=by omega
   simp[hs,X183,h1,h2,h4,e,VD]
  |succ i=>
   have hr:(i+1+1)*9≤1099511627776:=by omega
   have hi:i+1≤p.vs.length:=by omega
   have h4:i+1<p.vs.length:=by omega
   have h5:(i:Int)+1<p.vs.length:=by omega
   have wS:IntKind.wrap .i64 ((i:Int)+1+1)=i+1+1:=wrap_i64 (by omega) (by omega);simp[X183,E183]at hs;simp[hs,X183,h1,h2,h3,e,VD,hr,hi,h4,h5,wS]
 ·cases c:p.vs.length<;>rw[c]at hs<;>simp[X183,E183,c]at hs<;>simp[hs,X183,c]
abbrev F183 (p:Pg) (k:Nat):Env:=[(2,.ref ((3,0),0,0) 0),(7,.ref ((8,0),0,0) 0),(42,.dat (N p.ms.length)),(43,.dat (N k))]
def Y183a (p:Pg):Nat→zsa7
 |0=>[((3,0),nil4),((8,0),.plain (.box [.nils,.nils,.rsl ((8,1),0,0) 0 1 0 p.cs.length,.nils])),((8,1),qA p.cs.length)]
 |k+1=>[((3,0),nil4),((8,0),.plain (.box [.nils,.rsl ((8,1),0,0) k 1 0 (k+1),.rsl ((8,2),0,0) 0 1 0 p.cs.length,.nils])),((8,1),aI k (List.replicate (k+1) (-1))),((8,2),qA p.cs.length)]
theorem loop59_1a (p:Pg) (hl:p.ms.length<100000000) (s:St) (hs:hd [2,7,42,43] [2,7] s=some ⟨F183 p 0,Y183a p 0⟩):
  Ev (zga7 (exec K l59_1) s) fun q=>q.1=.exit 2∧hd [2,7] [] q.2=some ⟨(F183 p 0).take 2,Y183a p p.ms.length⟩:=by
 refine zeb7 (live:=[2,7,42,43]) (drop:=[2,7]) p.ms (by omega) (fun k=>⟨F183 p k,Y183a p k⟩) (fun _ q=>q.1=.exit 2∧hd [2,7] [] q.2=some ⟨(F183 p 0).take 2,Y183a p p.ms.length⟩)
  (fun i y s h1 h2 h3 ix hs=>?_) (fun s hs=>?_) s hs
 ·cases i with
  |zero=>
   simp[Y183a,F183]at hs;have h4:0<p.ms.length:=by omega
   simp[hs,Y183a,h4]
  |succ i=>
   have hr:(i+1+1)*9≤1099511627776:=by omega
   have h5:(i:Int)+1<p.ms.length:=by omega
   have wS:IntKind.wrap .i64 ((i:Int)+1+1)=i+1+1:=wrap_i64 (by omega) (by omega);simp[Y183a,F183]at hs;simp[hs,Y183a,hr,h5,wS,List.replicate_succ']
 ·cases c:p.ms.length<;>rw[c]at hs<;>simp[Y183a,F183,c]at hs<;>simp[hs,Y183a,c]
def Y183b (p:Pg) (n:Nat):Nat→zsa7
 |0=>[((3,0),nil4),((8,0),.plain (.box [.rsl ((8,1),0,0) n 1 0 (n+1),.nils,.rsl ((8,2),0,0) 0 1 0 p.cs.length,.nils])),((8,1),aI n (iv p)),((8,2),qA p.cs.length)]
 |k+1=>[((3,0),nil4),((8,0),.plain (.box [.rsl ((8,1),0,0) n 1 0 (n+1),.rsl ((8,2),0,0) k 1 0 (k+1),.rsl ((8,3),0,0) 0 1 0 p.cs.length,.nils])),((8,1),aI n (iv p)),((8,2),aI k (List.replicate (k+1) (-1))),((8,3),qA p.cs.length)]
theorem loop59_1b (p:Pg) (n:Nat) (hl:p.ms.length<100000000) (s:St) (hs:hd [2,7,42,43] [2,7] s=some ⟨F183 p 0,Y183b p n 0⟩):
  Ev (zga7 (exec K l59_1) s) fun q=>q.1=.exit 2∧hd [2,7] [] q.2=some ⟨(F183 p 0).take 2,Y183b p n p.ms.length⟩:=by
 refine zeb7 (live:=[2,7,42,43]) (drop:=[2,7]) p.ms (by omega) (fun k=>⟨F183 p k,Y183b p n k⟩) (fun _ q=>q.1=.exit 2∧hd [2,7] [] q.2=some ⟨(F183 p 0).take 2,Y183b p n p.ms.length⟩)
  (fun i y s h1 h2 h3 ix hs=>?_) (fun s hs=>?_) s hs
 ·cases i with
  |zero=>
   simp[Y183b,F183]at hs;have h4:0<p.ms.length:=by omega
   simp[hs,Y183b,h4]
  |succ i=>
   have hr:(i+1+1)*9≤1099511627776:=by omega
   have h5:(i:Int)+1<p.ms.length:=by omega
   have wS:IntKind.wrap .i64 ((i:Int)+1+1)=i+1+1:=wrap_i64 (by omega) (by omega);simp[Y183b,F183]at hs;simp[hs,Y183b,hr,h5,wS,List.replicate_succ']
 ·cases c:p.ms.length<;>rw[c]at hs<;>simp[Y183b,F183,c]at hs<;>simp[hs,Y183b,c]
theorem map_c {α:Type} (f:α→Dat) (d:Dat) (hf:∀x,f x=d):∀l:List α,l.map f=List.replicate l.length d
 |[]=>rfl
 |a::r=>by rw[List.map_cons,map_c f d hf r,hf,List.length_cons,List.replicate_succ]
theorem rep_q (l:List Str):List.map (Ns∘fun _=>[]) l=List.replicate l.length (Dat.sl []):=map_c _ _ (fun _=>rfl) l
theorem rep_m (l:List Str):List.map (N∘fun _ => -1) l=List.replicate l.length (N (-1)):=map_c _ _ (fun _=>rfl) l
def newP' (p:Pg):AVal:=if chP p=0 then .tup [.dat (MD (newM p)),.dat (N 0)] else .tup [.dat MD0,.dat (N (chP p))]
theorem run59 (p:Pg) (h:Fit p):K 59 [.dat (PD p)] []=some (newP' p,[]):=by
 obtain⟨a,b,h1⟩:=run71 p h;refine ce rfl ?_;unfold newP';rcases Classical.propComplete (chP p=0) with c1|c1
 ·have lm:=chP_lim (by rw[c1];trivial:chP p=0);have r1:24*(p.cs.length:Int)≤1099511627776:=by omega
  have r2:(p.cs.length:Int)≤1099511627776:=by omega
  simp[h1,c1,r1,r2];simp only[zaa7];refine (loop59_0 p (by omega) _ (by simp[h1,c1,r1,r2,X183])).mono ?_;rintro⟨y,s⟩ ⟨rfl,hq⟩;cases cv:p.vs.length with
  |zero=>
   have e1:p.vs=[]:=List.eq_nil_of_length_eq_zero cv;simp[cv,X183]at hq;simp[hq];simp only[zaa7];refine (loop59_1a p (by omega) _ (by simp[hq,Y183a])).mono ?_;rintro⟨y,s⟩ ⟨rfl,hq⟩;cases cm:p.ms.length with
   |zero=>
    have e2:p.ms=[]:=List.eq_nil_of_length_eq_zero cm;simp[cm,Y183a]at hq;simp[hq,newM,e1,e2,rep_q,rep_m]
   |succ m=>
    simp[cm,Y183a]at hq;simp[hq,newM,e1,cm,rep_q,rep_m]
  |succ n=>
   simp[cv,X183]at hq;have e3:List.take (n+1) (iv p)=iv p:=List.take_of_length_le (by simp[cv]);simp[hq];simp only[zaa7];refine (loop59_1b p n (by omega) _ (by simp[hq,Y183b,e3])).mono ?_;rintro⟨y,s⟩ ⟨rfl,hq⟩;cases cm:p.ms.length with
   |zero=>
    have e2:p.ms=[]:=List.eq_nil_of_length_eq_zero cm;simp[cm,Y183b]at hq;simp[hq,newM,e2,cv,rep_q,rep_m]
   |succ m=>
    simp[cm,Y183b]at hq;simp[hq,newM,cm,cv,rep_q,rep_m]
 ·simp[h1,c1]
end Go.Am.E

set_option maxRecDepth 10000
set_option maxHeartbeats 8000000
namespace Go.Am.E
open Go.Proofs Go.Ex Go.Rc
attribute [-simp] splice
attribute [local simp] zma7
abbrev SXl (s:Sa):List Dat:=[.sl (s.th.map TD),Ns s.me.va,Ns s.me.ow,.sl (s.me.qu.map Ns),Ns s.me.sg,.sl (s.bu.map BD)]
abbrev SX (s:Sa):Dat:=.agg (SXl s)
structure Bb (b:Bu):Prop where
 t:b.t<100000000000000
 t' : -100000000000000<b.t
 f:b.f<100000000000000
 f' : -100000000000000<b.f
 es:b.es.length<1000000000
structure Sb (s:Sa):Prop where
 th:s.th.length<1000000000
 ts:∀t∈s.th,Tb t
 me:Mb s.me
 bu:s.bu.length<1000000000
 bs:∀b∈s.bu,Bb b
def rnP (p:Pg) (s:Sa) (id:Int):AVal:=match fndT s.th id with
 |none=>.tup [.dat (.agg D17),.dat ID0,.dat (.bool false)]
 |some k=>match s.th[k]? with
  |none=>.junk
  |some t=>match penT p t with
   |some i=>.tup [.dat (TD t),.dat (ID i),.dat (.bool true)]
   |none=>.tup [.dat (TD t),.dat ID0,.dat (.bool false)]
theorem fndT_get:∀{l:List Th} {id:Int} {k:Nat},fndT l id=some k→∃t,l[k]?=some t∧t.id=id
 |t::r,id,k,h=>by
  simp only[fndT]at h;split at h
  ·rename_i c;obtain rfl:=Option.some.inj h;exact⟨t,rfl,c⟩
  ·cases hf:fndT r id with
   |none=>rw[hf]at h;cases h
   |some j=>
    rw[hf]at h;obtain rfl:=Option.some.inj h;obtain⟨u,h1,h2⟩:=fndT_get hf;exact⟨u,by simpa using h1,h2⟩
end Go.Am.E

set_option maxRecDepth 10000
set_option maxHeartbeats 8000000
namespace Go.Am.E
open Go.Proofs Go.Ex Go.Rc
attribute [-simp] splice
attribute [local simp] zma7 MsD
theorem run67 (l:List Int) (hl:l.length<10000000000):K 67 [.dat (Ns l)] []=some (.rsl ((0,0),0,0) 0 1 0 l.length,[aI 0 l]):=by
 have h:8*(l.length:Int)≤1099511627776:=by omega
 have h2:(l.length:Int)≤1099511627776:=by omega
 refine ce rfl ?_;simp[h,h2]
theorem run64 (l:List Th) (hl:l.length<1000000):K 64 [.dat (.sl (l.map TD))] []=some (.rsl ((0,0),0,0) 0 17 0 l.length,[.plain (.arr 17 0 false (l.map TD))]):=by
 have h:152*(l.length:Int)≤1099511627776:=by omega
 have h2:(l.length:Int)≤1099511627776:=by omega
 refine ce rfl ?_;simp[h,h2]
theorem run68 (l:List Msg) (hl:l.length<1000000):K 68 [.dat (.sl (l.map MsD))] []=some (.rsl ((0,0),0,0) 0 3 0 l.length,[.plain (.arr 3 0 false (l.map MsD))]):=by
 have h:40*(l.length:Int)≤1099511627776:=by omega
 have h2:(l.length:Int)≤1099511627776:=by omega
 refine ce rfl ?_;simp[h,h2]
theorem run69 (l:List Evt) (hl:l.length<1000000):K 69 [.dat (.sl (l.map ED))] []=some (.rsl ((0,0),0,0) 0 9 0 l.length,[.plain (.arr 9 0 false (l.map ED))]):=by
 have h:72*(l.length:Int)≤1099511627776:=by omega
 have h2:(l.length:Int)≤1099511627776:=by omega
 refine ce rfl ?_;simp[h,h2]
theorem run66 (l:List (List Int)) (hl:l.length<1000000) (hv:∀v∈l,v.length<1000000):K 66 [.dat (LsD l)] []=some (.rsl ((0,0),0,0) 0 1 0 l.length,[.fam 0 l.length false (l.map ownC)]):=by
 have h:24*(l.length:Int)≤1099511627776:=by omega
 have h2:(l.length:Int)≤1099511627776:=by omega
 refine ce rfl ?_;simp[h,h2];simp only[zaa7]
 refine (zeb7 (live:=[0,3,9,10]) (drop:=[0,3]) l (by omega) (fun k=>⟨[(0,.dat (LsD l)),(3,.rsl ((4,0),0,0) 0 1 0 l.length),(9,.dat (N l.length)),(10,.dat (N k))],[((4,0),fmQ l k)]⟩) (fun _ q=>q.1=.exit 0∧hd [3] [] q.2=some ⟨[(3,.rsl ((4,0),0,0) 0 1 0 l.length)],[((4,0),fmQ l l.length)]⟩)
  (fun i y s d1 d2 d3 ix hs=>?_) (fun s hs=>?_) _ (by simp)).mono ?_
 ·have g4:=run67 y (by have:=hv y (List.mem_of_getElem? d1);omega);have hi:i<l.length:=by omega
  have f1:=fm_get hi;have f2:=fm_step d1;simp[hs,d1,d2,d3,ix,g4,f1,f2]
 ·simp[hs]
 ·rintro⟨y,s⟩ ⟨rfl,hq⟩;simp[hq]
theorem mask32 (n:Nat) (hn:n<1000000):intE .and .u64 (n:Int) 4294967295=some (.dat (.int .u64 n)):=by
 have h:=(intE_bits (k:=.u64) (a:=n) (b:=4294967295) rfl (by rw[bits_u64];omega) (by rw[bits_u64];decide)).1;rw[show n &&& 4294967295=n from Nat.and_two_pow_sub_one_of_lt_two_pow (n:=32) (by omega)]at h;exact h
theorem run247 (n:Nat) (hn:n<1000000):K 247 [.dat (.int .u64 1),.dat (.int .u64 n)] []=some (.tup [.dat (.int .u64 0),.dat (.int .u64 n)],[]):=by
 refine ce rfl ?_;have m0:intE .and .u64 0 4294967295=some (.dat (.int .u64 0)):=mask32 0 (by omega);have m1:intE .and .u64 1 4294967295=some (.dat (.int .u64 1)):=mask32 1 (by omega);have mn:=mask32 n hn;have d:(n:Int) / 4294967296=0:=by omega
 have w:IntKind.wrap .u64 (n:Int)=n:=by rw[wrap_u64];omega
 simp[m0,m1,mn,d,w]
theorem run201 (n:Nat) (hn:n<1000000):K 201 [.dat (.int .u64 1),.dat (.int .u64 n)] []=some (.tup [.dat (.int .u64 0),.dat (.int .u64 n)],[]):=by
 have h:=run247 n hn;refine ce rfl ?_;simp[h]
end Go.Am.E

set_option maxRecDepth 10000
set_option maxHeartbeats 8000000
namespace Go.Am.E
open Go.Proofs Go.Ex Go.Rc
attribute [-simp] splice
attribute [local simp] zma7 MsD
theorem run41 (p:Pg) (bd:Int) (h:Fit p):K 41 [.dat (PD p),.dat (N bd)] []=some (.dat (N (stdE p bd)),[]):=by
 obtain⟨a,b,h1⟩:=run71 p h;rw[stdE_if];refine ce rfl ?_;generalize chP p=e at *
 by_cases c1:e=0
 ·subst c1;by_cases h2:bd<1<;>by_cases h3:32<bd<;>simp[h1,h2,h3]
 ·simp[h1,c1]
structure Sr (s:Ra):Prop where
 me:Mb s.me
 th:s.th.length<1000000
 tb:∀t∈s.th,Tb t
 ms:s.ms.length<1000000
 ml:∀l∈s.ms,l.length<1000000
 mv:∀l∈s.ms,∀m∈l,m.vw.length<1000000
 mo:∀l∈s.mo,l.length<1000000
 mol:s.mo.length<1000000
 vs:s.vs.length<1000000
 lk:s.lk.length<1000000
 sg:s.sg.length<1000000
 vsl:∀v∈s.vs,v.length<1000000
 lkl:∀v∈s.lk,v.length<1000000
 sgl:∀v∈s.sg,v.length<1000000
 ev:s.ev.length<1000000
 rf:s.rf.length<1000000
def yF {α:Type} (P:Nat→α→Bool) (i:Nat) (x:α):Option Unit:=if P i x=true then none else some ()
theorem scan_alI {α:Type} (P:Nat→α→Bool):∀(l:List α) (k:Nat),scan (yF P) l k=if alI P l k=true then none else some ()
 |[],k=>rfl
 |x::r,k=>by
  simp only[scan,yF,alI,scan_alI P r (k+1)];rcases Bool.eq_false_or_eq_true (P k x) with c|c<;>simp[c]
abbrev rbx (s:Ra):TObj:=.plain (.box ((RaDl s).map AVal.dat))
def msR (s:Ra):Bool:=alI (fun x l=>gdM s x&&alI (fun _ (m:Msg)=>gdV s m.vw) l 0) s.ms 0
def vwR (s:Ra):Bool:=alI (fun _ l=>alI (fun _ v=>gdV s v) l 0) [s.vs,s.lk,s.sg] 0
def shR (p:Pg) (s:Ra):Bool:=decide (s.ms.length=p.vs.length)&&decide (s.mo.length=p.vs.length)&&decide (s.vs.length=s.th.length)&&decide (s.lk.length=p.ms.length)&&decide (s.sg.length=p.cs.length)&&decide (s.ev.length≤512)&&decide (s.rf.length=s.ev.length)
def vldR (p:Pg) (bd:Int) (s:Ra):Bool:=valM p s.me&&shR p s&&(s.th.all (okT p bd)&&srtT s.th)&&msR s&&vwR s
theorem loop35_1 (s:Ra) (h:Sr s) (i:Nat) (l:List Msg) (hl:l∈s.ms) (st:St) (hs:hd [5,115,116,127,128,129] [5,127] st=some ⟨[(5,.ref ((6,0),0,0) 0),(115,.dat (N s.ms.length)),(116,.dat (N i)),(127,.dat (.sl (l.map MsD))),(128,.dat (N l.length)),(129,.dat (N 0))],[((6,0),rbx s)]⟩):
  Ev (zga7 (exec K l35_1) st) (bQ (fun q=>q.1=.exit 4∧hd [5,115,116] [] q.2=some ⟨[(5,.ref ((6,0),0,0) 0),(115,.dat (N s.ms.length)),(116,.dat (N i))],[((6,0),rbx s)]⟩) (RQ 6) (alI (fun _ (m:Msg)=>gdV s m.vw) l 0)):=by
 have hml:=h.ml l hl
 refine (zzb7 (live:=[5,115,116,127,128,129]) (drop:=[5,127]) l (yF fun _ (m:Msg)=>gdV s m.vw) (by omega) (fun k=>⟨[(5,.ref ((6,0),0,0) 0),(115,.dat (N s.ms.length)),(116,.dat (N i)),(127,.dat (.sl (l.map MsD))),(128,.dat (N l.length)),(129,.dat (N k))],[((6,0),rbx s)]⟩)
  (fun q=>q.1=.exit 4∧hd [5,115,116] [] q.2=some ⟨[(5,.ref ((6,0),0,0) 0),(115,.dat (N s.ms.length)),(116,.dat (N i))],[((6,0),rbx s)]⟩) (fun _ q=>RQ 6 q)
  (fun i m st g1 g2 g3 ix hs=>?_) (fun st hs=>?_) _ hs).mono ?_
 ·have h75:=run75 s m.vw (fun l hl=>by have:=h.ml l hl;omega) (by have:=h.ms;omega) (by have:=h.mv l hl m (List.mem_of_getElem? g1);omega);obtain⟨a,b,c⟩:=m;dsimp only at h75;cases c2:gdV s c<;>rw[c2]at h75<;>simp[hs,g1,g2,g3,ix,h75,yF,c2]
 ·simp[hs]
 ·rw[scan_alI];intro q hq;generalize alI (fun _ (m:Msg)=>gdV s m.vw) l 0=B at *
  cases B<;>exact hq
end Go.Am.E

set_option maxRecDepth 10000
set_option maxHeartbeats 16000000
namespace Go.Am.E
open Go.Proofs Go.Ex Go.Rc
attribute [local simp] MsD
abbrev nilC':List AVal:=[.nils,.nils,.nils,.nils,.nils,.nils,.nils,.nils,.nils,.nils,.nils,.nils]
abbrev cowM (l:List Msg):Cell:=.own true false 3 (l.map MsD)
abbrev fmM (ms:List (List Msg)) (k:Nat):TObj:=.fam 0 k false ((ms.map cowM).take k++List.replicate (ms.length-k) Cell.nil)
theorem fmM_step {qs:List (List Msg)} {i:Nat} {q:List Msg} (h:qs[i]?=some q):((qs.map cowM).take i++List.replicate (qs.length-i) Cell.nil).set i (.own true false 3 (q.map MsD))=(qs.map cowM).take (i+1)++List.replicate (qs.length-(i+1)) Cell.nil:=by
 have hi:=(List.getElem?_eq_some_iff.1 h).1;have e:((qs.map cowM).take i).length=i:=by simp;omega
 rw[List.set_append,if_neg (by omega),e,Nat.sub_self,zpe7 (l:=qs.map cowM) (x:=cowM q) (by rw[List.getElem?_map,h];rfl),show qs.length-i=(qs.length-(i+1))+1 by omega,List.replicate_succ];simp
theorem fmM_get {qs:List (List Msg)} {i:Nat} (h:i<qs.length):((qs.map cowM).take i++List.replicate (qs.length-i) Cell.nil)[i]?=some .nil:=by
 have e:((qs.map cowM).take i).length=i:=by simp;omega
 rw[List.getElem?_append_right (by omega),e,Nat.sub_self,List.getElem?_replicate,if_pos (by omega)]
abbrev B29 (s:Ra) (t:List AVal):TObj:=.plain (.box ([.rsl ((4,1),0,0) 0 17 0 s.th.length,.rsl ((4,2),0,0) 0 1 0 s.me.va.length,.rsl ((4,3),0,0) 0 1 0 s.me.ow.length,.rsl ((4,4),0,0) 0 1 0 s.me.qu.length,.rsl ((4,5),0,0) 0 1 0 s.me.sg.length,.rsl ((4,6),0,0) 0 1 0 s.ms.length,.rsl ((4,7),0,0) 0 1 0 s.vs.length,.rsl ((4,8),0,0) 0 1 0 s.lk.length,.rsl ((4,9),0,0) 0 1 0 s.sg.length]++t))
abbrev X29 (s:Ra) (k:Nat):zsa7:=[((2,0),rbx s),((3,0),.plain (.box nilC')),((4,0),B29 s [.nils,.nils,.nils]),((4,1),.plain (.arr 17 0 false (s.th.map TD))),((4,2),aI 0 s.me.va),((4,3),aI 0 s.me.ow),((4,4),.fam 0 s.me.qu.length false (s.me.qu.map ownC)),((4,5),aI 0 s.me.sg),((4,6),fmM s.ms k),((4,7),.fam 0 s.vs.length false (s.vs.map ownC)),((4,8),.fam 0 s.lk.length false (s.lk.map ownC)),((4,9),.fam 0 s.sg.length false (s.sg.map ownC))]
abbrev E29:Env:=[(1,.ref ((2,0),0,0) 0),(2,.ref ((3,0),0,0) 0),(3,.ref ((4,0),0,0) 0)]
theorem set_sameV {α β:Type} (f:α→β) {l:List α} {i:Nat} {x:α} (h:l[i]?=some x):(l.map f).set i (f x)=l.map f:=by
 obtain⟨h1,rfl⟩:=List.getElem?_eq_some_iff.1 h;rw[←List.map_set,List.set_getElem_self]
theorem set_at {α:Type} {l:List α} {i:Nat} {x:α} (h:l[i]?=some x):l.set i x=l:=by
 obtain⟨h1,rfl⟩:=List.getElem?_eq_some_iff.1 h;rw[List.set_getElem_self]
theorem loop29_0 (s:Ra) (h:Sr s) (st:St) (hs:hd [1,2,3,30,31] [1,2,3] st=some ⟨E29++[(30,.dat (N s.th.length)),(31,.dat (N 0))],X29 s 0⟩):
  Ev (zga7 (exec K l29_0) st) (fun q=>q.1=.exit 0∧hd [1,2,3] [] q.2=some ⟨E29,X29 s 0⟩):=by
 have hth:=h.th
 refine (zeb7 (live:=[1,2,3,30,31]) (drop:=[1,2,3]) s.th (by omega) (fun k=>⟨E29++[(30,.dat (N s.th.length)),(31,.dat (N k))],X29 s 0⟩) (fun _ q=>q.1=.exit 0∧hd [1,2,3] [] q.2=some ⟨E29,X29 s 0⟩)
  (fun i t s' g1 g2 g3 ix hs=>?_) (fun s' hs=>?_) _ hs)
 ·have ht:=(h.tb t (List.mem_of_getElem? g1)).hd;have h67:=run67 t.hd (by omega);simp[hs,g1,g2,g3,ix,h67];exact set_sameV TD g1
 ·simp[hs]
abbrev F29 (s:Ra) (x:Nat) (l:List Msg) (k:Nat):Env:=E29++[(5,.dat (N x)),(6,.dat (.sl (l.map MsD))),(48,.dat (MLD s.ms)),(49,.dat (N s.ms.length)),(50,.dat (N x)),(62,.dat (N l.length)),(63,.dat (N k))]
theorem loop29_1 (s:Ra) (h:Sr s) (x:Nat) (l:List Msg) (hx:s.ms[x]?=some l) (st:St) (hs:hd [1,2,3,5,6,48,49,50,62,63] [1,2,3,6,48] st=some ⟨F29 s x l 0,X29 s (x+1)⟩):
  Ev (zga7 (exec K l29_1) st) (fun q=>q.1=.exit 4∧hd [1,2,3,48,49,50] [] q.2=some ⟨E29++[(48,.dat (MLD s.ms)),(49,.dat (N s.ms.length)),(50,.dat (N x))],X29 s (x+1)⟩):=by
 have hl:=List.mem_of_getElem? hx;have hll:=h.ml l hl;have hms:=h.ms;have hxl:=(zca7 hx).2.2;have ixx:Ix x:=by unfold Ix;omega
 have hxi:(x:Int)<s.ms.length:=by omega
 have hF:((s.ms.map cowM).take (x+1)++List.replicate (s.ms.length-(x+1)) Cell.nil)[x]?=some (cowM l):=by
  rw[List.getElem?_append_left (by simp;omega),List.getElem?_take,if_pos (by omega),List.getElem?_map,hx];rfl
 refine (zeb7 (live:=[1,2,3,5,6,48,49,50,62,63]) (drop:=[1,2,3,6,48]) l (by omega) (fun k=>⟨F29 s x l k,X29 s (x+1)⟩) (fun _ q=>q.1=.exit 4∧hd [1,2,3,48,49,50] [] q.2=some ⟨E29++[(48,.dat (MLD s.ms)),(49,.dat (N s.ms.length)),(50,.dat (N x))],X29 s (x+1)⟩)
  (fun i m s' g1 g2 g3 ix hs=>?_) (fun s' hs=>?_) _ hs)
 ·have hm:=h.mv l hl m (List.mem_of_getElem? g1);obtain⟨a,b,c⟩:=m;dsimp only at hm;have h67:=run67 c (by omega);simp[hs,g1,g2,g3,ix,h67,ixx,hxi,hF];rw[show (List.map MsD l).set i (Dat.agg [N a,N b,Dat.sl (List.map N c)])=List.map MsD l from set_sameV MsD g1];exact set_at hF
 ·simp[hs]
abbrev G29 (s:Ra) (k:Nat):Env:=E29++[(48,.dat (MLD s.ms)),(49,.dat (N s.ms.length)),(50,.dat (N k))]
theorem loop29_2 (s:Ra) (h:Sr s) (st:St) (hs:hd [1,2,3,48,49,50] [1,2,3,48] st=some ⟨G29 s 0,X29 s 0⟩):
  Ev (zga7 (exec K l29_2) st) (fun q=>q.1=.exit 2∧hd [1,2,3] [] q.2=some ⟨E29,X29 s s.ms.length⟩):=by
 have hms:=h.ms
 refine (zeb7 (live:=[1,2,3,48,49,50]) (drop:=[1,2,3,48]) s.ms (by omega) (fun k=>⟨G29 s k,X29 s k⟩) (fun _ q=>q.1=.exit 2∧hd [1,2,3] [] q.2=some ⟨E29,X29 s s.ms.length⟩)
  (fun x l s' g1 g2 g3 ix hs=>?_) (fun s' hs=>?_) _ hs)
 ·have hl:=h.ml l (List.mem_of_getElem? g1);have h68:=run68 l (by omega);have hx:x<s.ms.length:=by omega
  have f1:=fmM_get hx;have f2:=fmM_step g1;have hlp:=loop29_1 s h x l g1;simp[hs,g1,g2,g3,ix,h68,f1,f2];simp only[zaa7];refine (hlp _ (by simp[f1,f2])).mono ?_;rintro⟨y,s'⟩ ⟨rfl,hq⟩;dsimp only at hq;simp[hq,ix]
 ·simp[hs]
abbrev CVl (s:Ra):List AVal:=[.rsl ((0,0),0,0) 0 17 0 s.th.length,.rsl ((0,1),0,0) 0 1 0 s.me.va.length,.rsl ((0,2),0,0) 0 1 0 s.me.ow.length,.rsl ((0,3),0,0) 0 1 0 s.me.qu.length,.rsl ((0,4),0,0) 0 1 0 s.me.sg.length,.rsl ((0,5),0,0) 0 1 0 s.ms.length,.rsl ((0,6),0,0) 0 1 0 s.vs.length,.rsl ((0,7),0,0) 0 1 0 s.lk.length,.rsl ((0,8),0,0) 0 1 0 s.sg.length,.rsl ((0,9),0,0) 0 9 0 s.ev.length,.rsl ((0,10),0,0) 0 1 0 s.rf.length,.rsl ((0,11),0,0) 0 1 0 s.mo.length]
abbrev COl (s:Ra):List TObj:=[.plain (.arr 17 0 false (s.th.map TD)),aI 0 s.me.va,aI 0 s.me.ow,.fam 0 s.me.qu.length false (s.me.qu.map ownC),aI 0 s.me.sg,.fam 0 s.ms.length false (s.ms.map cowM),.fam 0 s.vs.length false (s.vs.map ownC),.fam 0 s.lk.length false (s.lk.map ownC),.fam 0 s.sg.length false (s.sg.map ownC),.plain (.arr 9 0 false (s.ev.map ED)),aI 0 s.rf,.fam 0 s.mo.length false (s.mo.map ownC)]
theorem run29 (s:Ra) (h:Sr s):K 29 [.dat (RaD s)] []=some (.agg (CVl s),COl s):=by
 have v1:=run64 s.th (by have:=h.th;omega);have v2:=run65 s.me h.me;have v3:=run66 s.vs h.vs h.vsl;have v4:=run66 s.lk h.lk h.lkl;have v5:=run66 s.sg h.sg h.sgl;have v6:=run69 s.ev (by have:=h.ev;omega);have v7:=run67 s.rf (by have:=h.rf;omega);have v8:=run66 s.mo h.mol h.mo;have hms:=h.ms;have r1:24*(s.ms.length:Int)≤1099511627776:=by omega
 have r2:(s.ms.length:Int)≤1099511627776:=by omega
 have l0:=loop29_0 s h;have l2:=loop29_2 s h;refine ce rfl ?_;simp[v1,v2,v3,v4,v5,r1,r2];simp only[zaa7];refine (l0 _ (by simp)).mono ?_;rintro⟨y,s'⟩ ⟨rfl,hq⟩;dsimp only at hq;simp[hq];simp only[zaa7];refine (l2 _ (by simp)).mono ?_;rintro⟨y,s'⟩ ⟨rfl,hq⟩;dsimp only at hq;simp[hq,v6,v7,v8]
end Go.Am.E

set_option maxRecDepth 10000
set_option maxHeartbeats 16000000
namespace Go.Am.E
open Go.Proofs Go.Ex Go.Rc
attribute [local simp] MsD
structure Stq where
 p:Pg
 bd:Int
 s:Ra
 ix:Int
 ch:Int
 i:In
 e:Evt
 rf:Int
 re:Int
 er:Int
 tv:Nat
 mp:Nat
 vp:Nat
 lp:Nat
 sp:Nat
 op:Nat
@[simp] def n0 (j:Nat):Nat:=j
def xj:Bool→Nat→Nat
 |true,j=>j+4
 |false,j=>j
@[simp] theorem xj_t (j:Nat):xj true j=j+4:=rfl
@[simp] theorem xj_f (j:Nat):xj false j=j:=rfl
abbrev xS (x:Stq) (c:Nat→Nat):Bool→List AVal
 |true=>[.rsl ((0,c 1),0,0) x.tv 17 0 x.s.th.length,.rsl ((0,c 2),0,0) 0 1 0 x.s.me.va.length,.rsl ((0,c 3),0,0) 0 1 0 x.s.me.ow.length,.rsl ((0,c 4),0,0) 0 1 0 x.s.me.qu.length,.rsl ((0,c 5),0,0) 0 1 0 x.s.me.sg.length,.rsl ((0,c 6),0,0) 0 1 0 x.s.ms.length,.rsl ((0,c 7),0,0) 0 1 0 x.s.vs.length,.rsl ((0,c 8),0,0) 0 1 0 x.s.lk.length,.rsl ((0,c 9),0,0) 0 1 0 x.s.sg.length,.rsl ((0,c 10),0,0) 0 9 0 x.s.ev.length,.rsl ((0,c 11),0,0) 0 1 0 x.s.rf.length,.rsl ((0,c 12),0,0) 0 1 0 x.s.mo.length]
 |false=>[.rsl ((0,c 1),0,0) x.tv 17 0 x.s.th.length,.dat (Ns x.s.me.va),.dat (Ns x.s.me.ow),.dat (.sl (x.s.me.qu.map Ns)),.dat (Ns x.s.me.sg),.rsl ((0,c 2),0,0) 0 1 0 x.s.ms.length,.rsl ((0,c 3),0,0) 0 1 0 x.s.vs.length,.rsl ((0,c 4),0,0) 0 1 0 x.s.lk.length,.rsl ((0,c 5),0,0) 0 1 0 x.s.sg.length,.rsl ((0,c 6),0,0) 0 9 0 x.s.ev.length,.rsl ((0,c 7),0,0) 0 1 0 x.s.rf.length,.rsl ((0,c 8),0,0) 0 1 0 x.s.mo.length]
abbrev xB (x:Stq) (c:Nat→Nat) (b:Bool):TObj:=.plain (.box ((PDl x.p).map AVal.dat++.dat (N x.bd)::xS x c b++.dat (N x.ix)::.dat (N x.ch)::[.dat (N x.i.op),.dat (N x.i.a),.dat (N x.i.b),.dat (N x.i.c),.dat (N x.i.o),.dat (N x.i.n),.dat (N x.i.f),.dat (N x.i.r),.dat (N x.e.ag),.dat (N x.e.idx),.dat (N x.e.kind),.dat (N x.e.obj),.dat (N x.e.mux),.dat (N x.e.ent),.dat (N x.e.ord),.dat (N x.e.rd),.dat (N x.e.wr),.dat (N x.rf),.dat (N x.re),.dat (N x.er)]))
abbrev xM (x:Stq):Bool→List TObj
 |true=>[aI 0 x.s.me.va,aI 0 x.s.me.ow,.fam 0 x.s.me.qu.length false (x.s.me.qu.map ownC),aI 0 x.s.me.sg]
 |false=>[]
abbrev xO (x:Stq) (c:Nat→Nat) (b:Bool):List TObj:=xB x c b::.plain (.arr 17 x.tv false (x.s.th.map TD))::xM x b++[.fam 0 x.mp false (x.s.ms.map cowM),.fam 0 x.vp false (x.s.vs.map ownC),.fam 0 x.lp false (x.s.lk.map ownC),.fam 0 x.sp false (x.s.sg.map ownC),.plain (.arr 9 0 false (x.s.ev.map ED)),aI 0 x.s.rf,.fam 0 x.op false (x.s.mo.map ownC)]
theorem run230 (x:Stq) (b:Bool):K 230 [.ref ((0,0),0,0) 0] (xO x n0 b)=some (.dat (N x.s.ev.length),xO x n0 b):=by
 cases b<;>exact ce rfl (by simp)
def setV (x:Stq) (k:Nat) (v:List Int):Stq:={ x with s:={ x.s with vs:=x.s.vs.set k v } }
abbrev enum (n:Nat):List TObj→zsa7
 |[]=>[]
 |o::r=>((0,n),o)::enum (n+1) r
inductive Vm|own|dat|lk (b:Bool)|sg|vs
@[simp] abbrev Vm.b:Vm→Bool
 |.own|.dat|.vs=>true
 |.lk b=>b
 |.sg=>false
@[simp] def nF (m:Vm) (j:Nat):Nat:=match m with
 |.own=>j+1
 |.dat|.vs=>if j=7 then 1 else if j<7 then j+1 else j
 |.lk b=>if j=xj b 3 then 1 else if j=xj b 4 then 2 else if j<xj b 3 then j+2 else j
 |.sg=>if j=3 then 1 else if j=5 then 2 else if j<5 then (if j<3 then j+2 else j+1) else j
@[simp] def nG (m:Vm) (j:Nat):Nat:=match m with
 |.own=>j+4
 |.dat|.vs=>if j=7 then 4 else if j<7 then j+4 else j+3
 |.lk b=>if j=xj b 4 then 4 else if j=xj b 3 then 5 else if j<xj b 3 then j+5 else j+3
 |.sg=>if j=5 then 4 else if j=3 then 5 else if j<5 then (if j<3 then j+5 else j+4) else j+3
abbrev fV (x:Stq):TObj:=.fam 0 x.vp false (x.s.vs.map ownC)
abbrev fM (x:Stq):TObj:=.fam 0 x.mp false (x.s.ms.map cowM)
abbrev fL (x:Stq):TObj:=.fam 0 x.lp false (x.s.lk.map ownC)
abbrev fS (x:Stq):TObj:=.fam 0 x.sp false (x.s.sg.map ownC)
abbrev aT (x:Stq):TObj:=.plain (.arr 17 x.tv false (x.s.th.map TD))
abbrev xE (x:Stq):List TObj:=[.plain (.arr 9 0 false (x.s.ev.map ED)),aI 0 x.s.rf,.fam 0 x.op false (x.s.mo.map ownC)]
@[simp] abbrev O96 (m:Vm) (x:Stq) (w:List Int):List TObj:=match m with
 |.own=>xB x (nF .own) true::aI 0 w::aT x::xM x true++fM x::fV x::fL x::fS x::xE x
 |.dat=>xB x (nF .dat) true::fV x::aT x::xM x true++fM x::fL x::fS x::xE x
 |.vs=>xB x (nF .vs) true::fV x::aT x::xM x true++fM x::fL x::fS x::xE x
 |.lk b=>xB x (nF (.lk b)) b::fV x::fL x::aT x::xM x b++fM x::fS x::xE x
 |.sg=>xB x (nF .sg) false::fV x::fS x::aT x::xM x false++fM x::fL x::xE x
@[simp] abbrev V96 (m:Vm) (x:Stq) (k n j:Nat):AVal:=match m with
 |.own=>.rsl ((0,j),0,0) 0 1 0 n
 |_=>.rsl ((0,j),k+1,0) x.vp 1 0 n
@[simp] abbrev W96 (m:Vm) (x:Stq) (i:Nat) (o:List Int) (j:Nat):AVal:=match m with
 |.lk _=>.rsl ((0,j),i+1,0) x.lp 1 0 o.length
 |.sg=>.rsl ((0,j),i+1,0) x.sp 1 0 o.length
 |.vs=>.rsl ((0,j),i+1,0) x.vp 1 0 o.length
 |_=>.dat (Ns o)
@[simp] abbrev jF:Vm→Nat
 |.vs=>1
 |_=>2
@[simp] abbrev iG:Vm→Nat
 |.lk _|.sg=>5
 |_=>4
@[simp] abbrev xV (m:Vm) (x:Stq) (k:Nat) (w:List Int):Stq:=match m with
 |.own=>x
 |_=>setV x k w
def R96 (m:Vm) (x:Stq) (k i:Nat) (v o:List Int):Prop:=match m with
 |.own=>True
 |.dat=>x.s.vs[k]?=some v
 |.lk _=>x.s.vs[k]?=some v∧x.s.lk[i]?=some o
 |.sg=>x.s.vs[k]?=some v∧x.s.sg[i]?=some o
 |.vs=>x.s.vs[k]?=some v∧x.s.vs[i]?=some o∧i≠k
@[simp] theorem mapM_d (l:List (List Msg)):List.map (Cell.dat∘cowM) l=l.map fun r=>.sl (r.map MsD):=rfl
@[simp] theorem mapC_d (l:List (List Int)):List.map (Cell.dat∘ownC) l=l.map Ns:=rfl
@[simp] abbrev O166 (m:Vm) (x:Stq) (k i n:Nat) (w o:List Int):List TObj:=.plain (.box [.ref ((0,3),0,0) 0])::.plain (.box [W96 m x i o 4])::.plain (.box [V96 m x k n (iG m)])::(match m with
 |.own=>xB x (nG .own) true::aI 0 w::aT x::xM x true++fM x::fV x::fL x::fS x::xE x
 |.dat=>xB x (nG .dat) true::fV x::aT x::xM x true++fM x::fL x::fS x::xE x
 |.vs=>xB x (nG .vs) true::fV x::aT x::xM x true++fM x::fL x::fS x::xE x
 |.lk b=>xB x (nG (.lk b)) b::fL x::fV x::aT x::xM x b++fM x::fS x::xE x
 |.sg=>xB x (nG .sg) false::fS x::fV x::aT x::xM x false++fM x::fL x::xE x)
theorem run166 (m:Vm) (x:Stq) (k i d:Nat) (v o:List Int) (w u:Int) (l:List Msg) (hR:R96 m x k i v o) (hw:v[d]?=some w) (hu:o[d]?=some u) (hl:x.s.ms[d]?=some l) (hll:l.length<1000000) (ix:Ix d):
  K 166 [.dat (N d),.ref ((0,0),0,0) 0,.ref ((0,1),0,0) 0,.ref ((0,2),0,0) 0] (O166 m x k i v.length v o)=some (.dat (.bool (decide (posM l w<posM l u))),O166 m x k i v.length v o):=by
 have h1:=run80 x.s d l hl (by omega) w;have h2:=run80 x.s d l hl (by omega) u;obtain⟨o1,o2,o3⟩:=zca7 hu;obtain⟨v1,v2,v3⟩:=zca7 hw;unfold R96 at hR;rcases m with _|_|b|_|_
 ·exact ce rfl (by simp[h1,h2,hu,o1,o2,o3,v1,v2,v3,hw,ix])
 ·exact ce rfl (by simp[h1,h2,hu,o1,o2,o3,v1,v2,v3,hw,hR,ix])
 ·cases b<;>exact ce rfl (by simp[h1,h2,hu,o1,o2,o3,v1,v2,v3,hw,hR.1,hR.2,ix])
 ·exact ce rfl (by simp[h1,h2,hu,o1,o2,o3,v1,v2,v3,hw,hR.1,hR.2,ix])
 ·exact ce rfl (by simp[h1,h2,hu,o1,o2,o3,v1,v2,v3,hw,hR.1,hR.2.1,ix])
def jnV (ms:List (List Msg)):List Int→List Int→Nat→List Int
 |a::v,b::o,i=>(if posM (gt2 ms i) a<posM (gt2 ms i) b then b else a)::jnV ms v o (i+1)
 |v,_,_=>v
end Go.Am.E

set_option maxRecDepth 10000
set_option maxHeartbeats 16000000
namespace Go.Am.E
open Go.Proofs Go.Ex Go.Rc
attribute [local simp] MsD
theorem zcb7 (ms:List (List Msg)):∀(v o:List Int) (i:Nat),(jnV ms v o i).length=v.length
 |a::v,b::o,i=>by simp[jnV,zcb7 ms v o (i+1)]
 |[],o,i=>by simp[jnV]
 |a::v,[],i=>by simp[jnV]
theorem jnV_get (ms:List (List Msg)):∀(v o:List Int) (i d:Nat) (a b:Int),v[d]?=some a→o[d]?=some b→(jnV ms v o i)[d]?=some (if posM (gt2 ms (i+d)) a<posM (gt2 ms (i+d)) b then b else a)
 |[],o,i,d,a,b,h1,h2=>by simp at h1
 |x::v,[],i,d,a,b,h1,h2=>by simp at h2
 |x::v,y::o,i,0,a,b,h1,h2=>by
  simp at h1 h2;subst h1 h2;simp[jnV]
 |x::v,y::o,i,d+1,a,b,h1,h2=>by
  simp at h1 h2;have:=jnV_get ms v o (i+1) d a b h1 h2;simp[jnV,this,show i+1+d=i+(d+1) by omega]
def midV (ms:List (List Msg)) (v o:List Int) (d:Nat):List Int:=(jnV ms v o 0).take d++v.drop d
theorem midV_len (ms:List (List Msg)) (v o:List Int) (d:Nat) (h:d≤v.length):(midV ms v o d).length=v.length:=by
 simp[midV,zcb7];omega
theorem midV_0 (ms:List (List Msg)) (v o:List Int):midV ms v o 0=v:=by simp[midV]
theorem midV_n (ms:List (List Msg)) (v o:List Int):midV ms v o v.length=jnV ms v o 0:=by
 simp only[midV,List.drop_length,List.append_nil];exact List.take_of_length_le (by rw[zcb7];omega)
theorem midV_get (ms:List (List Msg)) (v o:List Int) {d:Nat} {a:Int} (h:v[d]?=some a):(midV ms v o d)[d]?=some a:=by
 have hd:=(List.getElem?_eq_some_iff.1 h).1;have e:((jnV ms v o 0).take d).length=d:=by simp[zcb7];omega
 rw[midV,List.getElem?_append_right (by omega),e,Nat.sub_self,List.getElem?_drop];simpa using h
theorem midV_s (ms:List (List Msg)) (v o:List Int) {d:Nat} {a b:Int} (h1:v[d]?=some a) (h2:o[d]?=some b):midV ms v o (d+1)=(midV ms v o d).set d (if posM (gt2 ms d) a<posM (gt2 ms d) b then b else a):=by
 have hd:=(List.getElem?_eq_some_iff.1 h1).1;have e:((jnV ms v o 0).take d).length=d:=by simp[zcb7];omega
 have hj:=jnV_get ms v o 0 d a b h1 h2;rw[Nat.zero_add]at hj;unfold midV;rw[zpe7 hj,zwb7 h1,List.set_append_right _ _ (Nat.le_of_eq e),e,Nat.sub_self];simp
theorem midV_same (ms:List (List Msg)) (v o:List Int) {d:Nat} {a b:Int} (h1:v[d]?=some a) (h2:o[d]?=some b) (h:¬posM (gt2 ms d) a<posM (gt2 ms d) b):midV ms v o (d+1)=midV ms v o d:=by
 rw[midV_s ms v o h1 h2,if_neg h];exact set_at (midV_get ms v o h1)
theorem zre7 {x:Stq} {k:Nat} {v:List Int} (h:k<x.s.vs.length):(setV x k v).s.vs[k]?=some v:=by
 show (x.s.vs.set k v)[k]?=some v
 rw[List.getElem?_set_self h]
theorem zdd7 (L:List Cell) (k v:Nat) (w:List Int) (n:Int):L.set k (Cell.own true false 1 ((w.map N).set v (N n)))=L.set k (ownC (w.set v n)):=by
 show _=L.set k (Cell.own true false 1 ((w.set v n).map N))
 rw[List.map_set]
theorem R96.k {m:Vm} {x:Stq} {k i:Nat} {v o:List Int} (h:R96 m x k i v o) (hm:m≠.own):x.s.vs[k]?=some v:=by
 rcases m with _|_|_|_|_
 ·exact absurd rfl hm
 ·exact h
 ·exact h.1
 ·exact h.1
 ·exact h.1
theorem R96.set {m:Vm} {x:Stq} {k i:Nat} {v o:List Int} (h:R96 m x k i v o) (w:List Int):R96 m (xV m x k w) k i w o:=by
 rcases m with _|_|_|_|_
 ·trivial
 ·exact zre7 (zca7 h).2.2
 ·exact⟨zre7 (zca7 h.1).2.2,h.2⟩
 ·exact⟨zre7 (zca7 h.1).2.2,h.2⟩
 ·refine⟨zre7 (zca7 h.1).2.2,?_,h.2.2⟩
  show (x.s.vs.set k w)[i]?=_
  rw[List.getElem?_set_ne (Ne.symm h.2.2)];exact h.2.1
abbrev E96 (d n:Nat):Env:=[(4,.ref ((5,0),0,0) 0),(5,.ref ((6,0),0,0) 0),(6,.fn 166 [.ref ((4,0),0,0) 0,.ref ((6,0),0,0) 0,.ref ((5,0),0,0) 0]),(10,.dat (N n)),(11,.dat (N d))]
@[simp] abbrev X96 (m:Vm) (x:Stq) (k i n:Nat) (w o:List Int):zsa7:=enum 0 (O96 m x w)++[((4,0),.plain (.box [.ref ((0,0),0,0) 0])),((5,0),.plain (.box [V96 m x k n 1])),((6,0),.plain (.box [W96 m x i o (jF m)]))]
abbrev I96 (m:Vm) (x:Stq) (k i:Nat) (v o:List Int) (d:Nat):St:=⟨E96 d v.length,X96 m (xV m x k (midV x.s.ms v o d)) k i v.length (midV x.s.ms v o d) o⟩
theorem loop96 (m:Vm) (x:Stq) (k j:Nat) (v o:List Int) (hR:R96 m x k j v o) (hl:v.length<1000000) (ho:v.length≤o.length) (hm:v.length≤x.s.ms.length) (hml:∀l∈x.s.ms,l.length<1000000) (st:St) (hs:hd [4,5,6,10,11] [] st=some (I96 m x k j v o 0)):
  Ev (zga7 (exec K l96_0) st) (fun q=>q.1=.exit 0∧∃env,hd [] [] q.2=some ⟨env,X96 m (xV m x k (jnV x.s.ms v o 0)) k j v.length (jnV x.s.ms v o 0) o⟩):=by
 refine (zeb7 (live:=[4,5,6,10,11]) (drop:=[]) v (by omega) (I96 m x k j v o) (fun _ q=>q.1=.exit 0∧∃env,hd [] [] q.2=some ⟨env,X96 m (xV m x k (jnV x.s.ms v o 0)) k j v.length (jnV x.s.ms v o 0) o⟩)
   (fun i a s' g1 g2 g3 ix hs=>?_) (fun s' hs=>?_) _ hs)
 ·obtain⟨b,hb⟩:∃b,o[i]?=some b:=⟨_,List.getElem?_eq_getElem (show i<o.length by omega)⟩;obtain⟨l,hl⟩:∃l,x.s.ms[i]?=some l:=⟨_,List.getElem?_eq_getElem (show i<x.s.ms.length by omega)⟩;have hlen:=midV_len x.s.ms v o i (by omega);have hmg:=midV_get x.s.ms v o g1;obtain⟨b1,b2,b3⟩:=zca7 hb;obtain⟨m1,m2,m3⟩:=zca7 hmg;have hR':=hR.set (midV x.s.ms v o i);have h166:=run166 m (xV m x k (midV x.s.ms v o i)) k j i _ o a b l hR' hmg hb (by rcases m with _|_|_|_|_<;>exact hl) (hml _ (List.mem_of_getElem? hl)) ix;rw[hlen]at h166;have cb:∀b:Bool,b=false∨b=true:=by decide
  by_cases c:posM l a<posM l b
  ·have e:=midV_s x.s.ms v o g1 hb;rw[zwd7 hl,if_pos c]at e;unfold R96 at hR';rcases m with _|_|b|_|_
   ·simp[xB,xS,xM,c]at h166;simp[hs,g1,g2,g3,ix,enum,xM,xB,xS,h166,YID,hb,b1,b2,b3,hlen,hmg,m1,e,List.map_set]
   ·simp[xB,xS,xM,c]at h166;simp[hs,g1,g2,g3,ix,enum,xM,xB,xS,h166,YID,hb,b1,b2,b3,hlen,hmg,m1,hR'];rw[e];simp[setV,List.map_set];exact zdd7 _ _ _ _ _
   ·obtain⟨r1,r2⟩:=hR';rcases cb b with rfl|rfl
    all_goals
     simp[xB,xS,xM,c]at h166;simp[hs,g1,g2,g3,ix,enum,xM,xB,xS,h166,YID,hb,b1,b2,b3,hlen,hmg,m1,r1,r2];rw[e];simp[setV,List.map_set];exact zdd7 _ _ _ _ _
   ·obtain⟨r1,r2⟩:=hR';simp[xB,xS,xM,c]at h166;simp[hs,g1,g2,g3,ix,enum,xM,xB,xS,h166,YID,hb,b1,b2,b3,hlen,hmg,m1,r1,r2];rw[e];simp[setV,List.map_set];exact zdd7 _ _ _ _ _
   ·obtain⟨r1,r2,r3⟩:=hR';simp[xB,xS,xM,c]at h166;simp[hs,g1,g2,g3,ix,enum,xM,xB,xS,h166,YID,hb,b1,b2,b3,hlen,hmg,m1,r1,r2,r3];rw[e];simp[setV,List.map_set];exact zdd7 _ _ _ _ _
  ·have e:=midV_same x.s.ms v o g1 hb (by rw[zwd7 hl];exact c);rcases m with _|_|b|_|_;rotate_left 2
   ·rcases cb b with rfl|rfl
    all_goals
     simp[xB,xS,xM,c]at h166;simp[hs,g1,g2,g3,ix,enum,xM,xB,xS,h166,e,YID]
   all_goals
    simp[xB,xS,xM,c]at h166;simp[hs,g1,g2,g3,ix,enum,xM,xB,xS,h166,e,YID]
 ·rcases m with _|_|_|_|_<;>simp[hs,midV_n]
theorem run96 (m:Vm) (x:Stq) (k j:Nat) (v o:List Int) (hR:R96 m x k j v o) (hl:v.length<1000000) (ho:v.length≤o.length) (hm:v.length≤x.s.ms.length) (hml:∀l∈x.s.ms,l.length<1000000):K 96 [.ref ((0,0),0,0) 0,V96 m x k v.length 1,W96 m x j o (jF m)] (O96 m x v)=some (.tup [],O96 m (xV m x k (jnV x.s.ms v o 0)) (jnV x.s.ms v o 0)):=by
 have e0:=fun h=>set_at (hR.k h)
 have h1:=loop96 m x k j v o hR hl ho hm hml;rcases m with _|_|b|_|_;rotate_left 2
 ·simp at e0;refine ce rfl ?_;rcases b with _|_
  all_goals
   simp;simp only[zaa7];refine (h1 _ (by simp[setV,midV_0,e0,enum,xM])).mono ?_;rintro⟨y,s'⟩ ⟨rfl,env,hq⟩;dsimp only at hq;simp
   show Ev (endK [] false _ (.ret,s')) _
   rw[endK_hd (live:=[]) (by simp) hq];simp[enum,xM,xB,xS]
 all_goals
  simp at e0;refine ce rfl ?_;simp;simp only[zaa7];refine (h1 _ (by simp[setV,midV_0,e0,enum,xM])).mono ?_;rintro⟨y,s'⟩ ⟨rfl,env,hq⟩;dsimp only at hq;simp
  show Ev (endK [] false _ (.ret,s')) _
  rw[endK_hd (live:=[]) (by simp) hq];simp[enum,xM,xB,xS]
end Go.Am.E

set_option maxRecDepth 10000
set_option maxHeartbeats 16000000
namespace Go.Am.E
open Go.Proofs Go.Ex Go.Rc
attribute [local simp] MsD
def rd0 (x:Stq) (k v:Nat) (w:List Int):Stq:={ setV x k (w.set v (-1)) with e:={ x.e with rd:=atV x.p x.s v 0 },rf:=-1 }
theorem row_get (r:RId) (pv:Nat):∀(l:List (List Int)) (j k:Nat) (w:List Int),l[k]?=some w→(rowsA r pv j (l.map ownC))[k]?=some [.rsl (r,j+k+1,0) pv 1 0 w.length]
 |[],j,k,w,h=>by simp at h
 |q::l,j,0,w,h=>by
  simp at h;subst h;simp[rowsA]
 |q::l,j,k+1,w,h=>by
  simp at h;have:=row_get r pv l (j+1) k w h;simp[rowsA,this,show j+1+k=j+(k+1) by omega]
theorem run167z (x:Stq) (b:Bool) (k v:Nat) (w:List Int) (hk:x.ix=k) (hi:x.i.o=v) (hw:x.s.vs[k]?=some w) (hv:v<w.length) (hp:v<x.p.vs.length) (hx:Ix k∧Ix v):K 167 [.ref ((0,0),0,0) 0,.dat (N 0)] (xO x n0 b)=some (.tup [],xO (rd0 x k v w) n0 b):=by
 have h1:=run143 x.p x.s v 0 (fun _=>hp) (fun h=>absurd rfl h) (by omega);simp only[Int.ofNat_zero,Int.natCast_zero]at h1;obtain⟨w1,w2,w3⟩:=zca7 hw;obtain⟨a,ha⟩:∃a,w[v]?=some a:=⟨_,List.getElem?_eq_getElem hv⟩;obtain⟨a1,a2,a3⟩:=zca7 ha;have r1:=(zca7 (row_get (0,3) x.vp _ 0 k w hw)).1;simp only[Nat.zero_add]at r1;have r2:=(zca7 (row_get (0,7) x.vp _ 0 k w hw)).1;simp only[Nat.zero_add]at r2;cases b
 ·refine ce rfl ?_;simp[r1,hk,hi,h1,hw,w1,w2,w3,ha,a1,a2,a3,hx.1,hx.2];simp[rd0,setV,List.map_set,hk,hi];exact zdd7 _ _ _ _ _
 ·refine ce rfl ?_;simp[r2,hk,hi,h1,hw,w1,w2,w3,ha,a1,a2,a3,hx.1,hx.2];simp[rd0,setV,List.map_set,hk,hi];exact zdd7 _ _ _ _ _
end Go.Am.E
