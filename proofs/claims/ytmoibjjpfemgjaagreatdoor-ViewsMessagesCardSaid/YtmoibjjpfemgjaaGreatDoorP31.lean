/- Parts of the proofs of the statement, joined and made short: V18 V11 VQ VR V19 V20 V23 V24 V21 V22 EW34 EW35 EW36 EW37 EW38. -/
import Derived.Test.YtmoibjjpfemgjaaGreatDoorP30
import Derived.Test.YtmoibjjpfemgjaaGreatDoorP19
import Derived.Test.YtmoibjjpfemgjaaGreatDoorP23
import Derived.Test.YtmoibjjpfemgjaaGreatDoorP29
set_option linter.unusedVariables false
set_option linter.unusedSimpArgs false
set_option linter.unusedSectionVars false
set_option maxRecDepth 10000
set_option maxHeartbeats 16000000
namespace Go.Am.E
open Go.Proofs Go.Ex Go.Rc
attribute [local simp] MsD
def rd1 (x:Stq) (k v:Nat) (w:List Int) (m:Msg):Stq:={ setV x k (if x.e.ord=2 then jnV x.s.ms (w.set v m.ev) m.vw 0 else w.set v m.ev) with e:={ x.e with rd:=m.val },rf:=m.ev }
theorem zrb7 (l:List (List Int)) (k:Nat) (r:List Int):List.map ownC (l.set k r)=(List.map ownC l).set k (ownC r):=List.map_set
theorem row_get3 (r:RId) (pv:Nat) {l:List (List Msg)} {k:Nat} {w:List Msg} (h:l[k]?=some w):(rowsA r pv 0 (l.map cowM))[k]?=some [.rsl (r,k+1,0) pv 3 0 w.length]:=by
 rw[zjb7,List.getElem?_map,h];simp
theorem run167s (x:Stq) (k v n:Nat) (w:List Int) (l:List Msg) (m:Msg) (hk:x.ix=k) (hi:x.i.o=v) (hw:x.s.vs[k]?=some w) (hv:v<w.length) (hl:x.s.ms[v]?=some l) (hm:l[n]?=some m) (hx:Ix k∧Ix v∧Ix n)
  (hwl:w.length<1000000) (hmv:w.length≤m.vw.length) (hwm:w.length≤x.s.ms.length) (hml:∀l∈x.s.ms,l.length<1000000):K 167 [.ref ((0,0),0,0) 0,.dat (N (n+1))] (xO x n0 true)=some (.tup [],xO (rd1 x k v w m) n0 true):=by
 have hg:=zwd7 hl;have hn:=(zca7 hm).2.2;have h1:=run143 x.p x.s v (n+1) (fun h=>by omega) (fun h=>⟨(zca7 hl).2.2,by rw[hg];simpa using hn⟩) (by have:=hml l (List.mem_of_getElem? hl);omega);have ha:atV x.p x.s v (n+1)=m.val:=by simp[atV,hg,hm]
 rw[ha,show ((n+1:Nat):Int)=(n:Int)+1 by omega]at h1;have wn:IntKind.wrap .i64 (n:Int)=n:=wrap_i64 (by omega) (by have:=hx.2.2;unfold Ix at this;omega);obtain⟨w1,w2,w3⟩:=zca7 hw;obtain⟨l1,l2,l3⟩:=zca7 hl;obtain⟨m1,m2,m3⟩:=zca7 hm;obtain⟨a,ha⟩:∃a,w[v]?=some a:=⟨_,List.getElem?_eq_getElem hv⟩;obtain⟨a1,a2,a3⟩:=zca7 ha;have r2:=(zca7 (row_get (0,7) x.vp _ 0 k w hw)).1;simp only[Nat.zero_add]at r2;have hn':(0:Int)<(n:Int)+1:=by omega
 have h96:=run96 .dat { setV x k (w.set v m.ev) with e:={ x.e with rd:=m.val },rf:=m.ev } k 0 (w.set v m.ev) m.vw (zre7 w3) (by simpa using hwl) (by simpa using hmv) (by simp[setV];exact hwm) hml;have r3:=(zca7 (row_get3 (0,6) x.mp hl)).1;obtain⟨me,mva,mvw⟩:=m;dsimp only at h96 hmv;refine ce rfl ?_;by_cases ho:x.e.ord=2
 ·simp[xB,xS,xM,setV,fV,aT,fM,fL,fS,xE,zrb7,hk,hi,ho]at h96;simp[zdd7,r2,r3,hk,hi,h1,hw,w1,w2,w3,ha,a1,a2,a3,hx.1,hx.2.1,hx.2.2,hl,l1,l2,l3,hm,m1,m2,m3,wn,hn',ho,h96];simp[rd1,setV,hk,hi,ho,zrb7]
 ·simp[r2,r3,hk,hi,h1,hw,w1,w2,w3,ha,a1,a2,a3,hx.1,hx.2.1,hx.2.2,hl,l1,l2,l3,hm,m1,m2,m3,wn,hn',ho];simp[rd1,setV,List.map_set,hk,hi,ho];exact zdd7 _ _ _ _ _
end Go.Am.E

set_option maxRecDepth 10000
set_option maxHeartbeats 8000000
namespace Go.Am.E
open Go.Proofs Go.Ex Go.Rc
attribute [-simp] splice
attribute [local simp] zma7
abbrev E124 (n m:Nat):Env:=[(7,.rsl ((31,0),0,0) 0 1 0 n),(8,.dat (N m))]
abbrev C124 (n m:Nat):List Dat:=List.replicate m (N (-1))++List.replicate (n-m) (N 0)
abbrev X124 (n m:Nat):zsa7:=[((31,0),.plain (.arr 1 0 false (C124 n m)))]
theorem rep_splice (n m:Nat) (h:m≤n):splice (C124 n m) m (List.replicate (min (n-m) m) (N (-1)))=C124 n (m+min m (n-m)):=by
 have e1:List.take m (C124 n m)=List.replicate m (N (-1)):=List.take_left' (by simp)
 have e2:List.drop (m+min (n-m) m) (C124 n m)=List.replicate (n-(m+min m (n-m))) (N 0):=by
  unfold C124;rw[List.drop_append,List.drop_eq_nil_of_le (by simp),List.nil_append,List.length_replicate,List.drop_replicate]
  congr 1
  omega
 unfold splice;rw[List.length_replicate,e1,e2,List.replicate_append_replicate,Nat.min_comm]
theorem rep_loop (n:Nat) (hn:n<1000000):∀(k m:Nat) (s:St),n-m≤k→(m<n→1≤m)→m≤n→hd [7,8] [] s=some ⟨E124 n m,X124 n m⟩→
  Ev (zga7 (exec K l124_0) s) (fun q=>q.1=.exit 0∧hd [7] [] q.2=some ⟨[(7,.rsl ((31,0),0,0) 0 1 0 n)],[((31,0),.plain (.arr 1 0 false (List.replicate n (N (-1)))))]⟩)
 |k,m,s,hk,h1,h2,hs=>by
  by_cases hm:m=n
  ·subst hm;apply zya7;simp[hs]
  ·have h3:(m:Int)<n:=by omega
   have h3':m<n:=by omega
   obtain⟨k,rfl⟩:∃j,k=j+1:=⟨k-1,by omega⟩;apply zya7;have ix:Ix m:=by unfold Ix;omega
   have h4:(m:Int)≤n:=by omega
   have h5:=h1 h3';have hsp:=rep_splice n m h2;have hw:IntKind.wrap .i64 ((m:Int)+(min m (n-m):Nat))=(m+min m (n-m):Nat):=by rw[wrap_i64 (by omega) (by omega)];omega
   have ih:=rep_loop n hn k (m+min m (n-m));generalize hM:m+min m (n-m)=M at *
   simp only[C124]at hsp;simp[hs,h3,h3',h2,h4,ix,hw,hsp];exact ih _ (by omega) (by omega) (by omega) (by simp)
theorem run124 (n:Nat) (hn:n<1000000):K 124 [.dat (.sl [N (-1)]),.dat (N n)] []=some (.rsl ((0,0),0,0) 0 1 0 n,[.plain (.arr 1 0 false (List.replicate n (N (-1))))]):=by
 have h:=run201 n hn;have h2:¬(n:Int)<0:=by omega
 have h3:¬(9223372036854775807:Int)<n:=by omega
 have h4:8*(n:Int)≤1099511627776:=by omega
 have h5:(n:Int)≤1099511627776:=by omega
 have w:IntKind.wrap .u64 (n:Int)=n:=by rw[wrap_u64];omega
 have w':IntKind.wrap .i64 (n:Int)=n:=wrap_i64 (by omega) (by omega);refine ce rfl ?_
 have e:splice (List.replicate n (Dat.int IntKind.i64 0)) 0 (List.take n [N (-1)])=C124 n (min 1 n):=by
  cases n with
  |zero=>rfl
  |succ n=>simp[splice,C124,Nat.min_eq_left]
 have hl:=rep_loop n hn n (min 1 n);generalize hM:min 1 n=M at *
 simp[h,h2,h3,h4,h5,w,w',e,hM];simp only[zaa7];refine (hl _ (by omega) (by omega) (by omega) (by simp)).mono ?_;rintro⟨y,s'⟩ ⟨rfl,hq⟩;dsimp only at hq;simp[hq]
end Go.Am.E

namespace Go.Am
mutual
theorem eqv_rfl:∀d:Dat,Dat.eqv d d=true
 |.int k n=>by simp[Dat.eqv]
 |.bool a=>by simp[Dat.eqv]
 |.str a=>by simp[Dat.eqv]
 |.sl a=>by simp[Dat.eqv,eqvL_rfl a]
 |.agg a=>by simp[Dat.eqv,eqvL_rfl a]
theorem eqvL_rfl:∀l:List Dat,Dat.eqvL l l=true
 |[]=>by simp[Dat.eqvL]
 |a::r=>by simp[Dat.eqvL,eqv_rfl a,eqvL_rfl r]
end
theorem same_d (a:Dat):AVal.same (.dat a) (.dat a)=true:=by simp[AVal.same,eqv_rfl]
theorem same_r (i:Id) (a b c d:Nat):AVal.same (.rsl i a b c d) (.rsl i a b c d)=true:=by simp[AVal.same]
theorem same_p (i:Id) (a:Nat):AVal.same (.ref i a) (.ref i a)=true:=by simp[AVal.same]
theorem same_n:sameAll AVal.same [] []=true:=by simp[sameAll]
theorem same_c (a b:AVal) (r s:List AVal):sameAll AVal.same (a::r) (b::s)=(AVal.same a b&&sameAll AVal.same r s):=by simp[sameAll]
theorem same_cells:∀l:List Cell,sameAll Cell.same l l=true
 |[]=>by simp[sameAll]
 |c::r=>by
  rw[sameAll,same_cells r];cases c<;>simp[Cell.same,eqvL_rfl]
theorem ztc7 (a b:List AVal):TObj.same (.plain (.box a)) (.plain (.box b))=sameAll AVal.same a b:=by simp[TObj.same,Obj.same]
theorem zuc7 (s v:Nat) (f:Bool) (l:List Dat):TObj.same (.plain (.arr s v f l)) (.plain (.arr s v f l))=true:=by simp[TObj.same,Obj.same,eqvL_rfl]
theorem zsc7 (s v:Nat) (f:Bool) (l:List Cell):TObj.same (.fam s v f l) (.fam s v f l)=true:=by simp[TObj.same,same_cells]
end Go.Am

set_option maxRecDepth 10000
set_option maxHeartbeats 16000000
namespace Go.Am.E
open Go.Proofs Go.Ex Go.Rc
attribute [local simp] MsD
def ins {α:Type} (l:List α) (i:Nat) (a:α):List α:=l.take i++a::l.drop i
theorem zte7 {α:Type} (l:List α) (i:Nat) (a:α) (h:i≤l.length):(ins l i a).length=l.length+1:=by simp[ins];omega
theorem insL_get {α:Type} (l:List α) (i:Nat) (a:α) (h:i≤l.length):(ins l i a)[i]?=some a:=by
 have e:(l.take i).length=i:=by simp;omega
 rw[ins,List.getElem?_append_right (by omega),e,Nat.sub_self];rfl
theorem insL_set {α:Type} (l:List α) (i:Nat) (a b:α) (h:i≤l.length):(ins l i a).set i b=ins l i b:=by
 have e:(l.take i).length=i:=by simp;omega
 rw[ins,List.set_append_right _ _ (Nat.le_of_eq e),e,Nat.sub_self];rfl
theorem zvb7 (r:RId) (pv:Nat) {l:List (List Int)} {k:Nat} {w:List Int} (h:l[k]?=some w):(rowsA r pv 0 (l.map ownC))[k]?=some [.rsl (r,k+1,0) pv 1 0 w.length]:=by
 rw[zjb7,List.getElem?_map,h];simp
theorem aI_set (a:List Int) (b:Nat) (n:Int):aI 0 (a.set b n)=.plain (.arr 1 0 false ((a.map N).set b (N n))):=by
 show TObj.plain (.arr 1 0 false ((a.set b n).map N))=_
 rw[List.map_set]
theorem Ns_cons (a:Int) (l:List Int):Ns (a::l)=.sl (N a::l.map N):=rfl
theorem insK_row (sz bytes pv v n i v2:Nat) (cells:List Cell) (fr:Bool) (l:List Dat) (d:Dat) (h:cells[v]?=some (.own fr false sz l)) (hn:n=l.length) (hi:i≤n) (hr:(n+1)*(bytes+1)≤room):
  insK sz bytes [.rsl ((0,0),v+1,0) pv sz 0 n,.dat (N i),.rsl ((0,1),0,0) v2 sz 0 1] [.fam 0 pv false cells,.plain (.arr sz v2 false [d])]=
  some (.rsl ((0,0),v+1,0) (pv+1) sz 0 (n+1),[.fam 0 (pv+1) false (cells.set v (.own false false sz (insD l i d))),.plain (.arr sz v2 false [d])]):=by
 subst hn;have hi':(i:Int)≤l.length:=by omega
 have hi0:(0:Int)≤i:=by omega
 unfold room at hr;simp[insK,zpa7,flatE,h,hi',hi0,hr,inPos,putAll]
theorem run231 (pv v n i v2:Nat) (ms:List (List Msg)) (l:List Msg) (a b:Int) (h:ms[v]?=some l) (hn:n=l.length) (hi:i≤n) (hl:l.length<1000000):K 231 [.rsl ((0,0),v+1,0) pv 3 0 n,.dat (N i),.rsl ((0,1),0,0) v2 3 0 1] [.fam 0 pv false (ms.map cowM),.plain (.arr 3 v2 false [.agg [N a,N b,.sl []]])]=
  some (.rsl ((0,0),v+1,0) (pv+1) 3 0 (n+1),[.fam 0 (pv+1) false ((ms.map cowM).set v (.own false false 3 ((ins l i ⟨a,b,[]⟩).map MsD))),.plain (.arr 3 v2 false [MsD ⟨a,b,[]⟩])]):=by
 refine zjf7 rfl ?_;have e:(ins l i ⟨a,b,[]⟩).map MsD=insD (l.map MsD) i (MsD ⟨a,b,[]⟩):=by simp[ins,insD]
 have:=insK_row 3 40 pv v n i v2 (ms.map cowM) true (l.map MsD) (MsD ⟨a,b,[]⟩) (by rw[List.getElem?_map,h];rfl) (by rw[List.length_map,hn]) hi (by unfold room;omega);simp only[tblE,lawE,memoL,insV];rw[show (Dat.agg [N a,N b,.sl []])=MsD ⟨a,b,[]⟩ from rfl,this,e]
theorem run232 (pv v n i v2:Nat) (ms:List (List Int)) (l:List Int) (a:Int) (h:ms[v]?=some l) (hn:n=l.length) (hi:i≤n) (hl:l.length<1000000):K 232 [.rsl ((0,0),v+1,0) pv 1 0 n,.dat (N i),.rsl ((0,1),0,0) v2 1 0 1] [.fam 0 pv false (ms.map ownC),.plain (.arr 1 v2 false [N a])]=
  some (.rsl ((0,0),v+1,0) (pv+1) 1 0 (n+1),[.fam 0 (pv+1) false ((ms.map ownC).set v (.own false false 1 ((ins l i a).map N))),.plain (.arr 1 v2 false [N a])]):=by
 refine zjf7 rfl ?_;have e:(ins l i a).map N=insD (l.map N) i (N a):=by simp[ins,insD]
 have:=insK_row 1 8 pv v n i v2 (ms.map ownC) true (l.map N) (N a) (by rw[List.getElem?_map,h];rfl) (by rw[List.length_map,hn]) hi (by unfold room;omega);simp only[tblE,lawE,memoL,insV];rw[this,e]
end Go.Am.E

set_option maxRecDepth 10000
set_option maxHeartbeats 16000000
namespace Go.Am.E
open Go.Proofs Go.Ex Go.Rc
attribute [local simp] MsD same_d same_r same_p same_n same_c ztc7 zuc7 zsc7 pairK zyc7 chgOf slim sameAt meets updT
def owV (x:Stq) (v pl:Nat) (w:List Int) (o:Int) (f:Option (List Int)):List Int:=
 let w0:=if x.e.ord=2 then w.set v x.s.ev.length else (List.replicate w.length (-1)).set v x.s.ev.length
 match f with
 |none=>w0
 |some f=>jnV (x.s.ms.set v (ins (gt2 x.s.ms v) pl ⟨x.s.ev.length,o,[]⟩)) w0 f 0
def wrX (x:Stq) (k v pl:Nat) (w:List Int) (o:Int) (f:Option (List Int)):Stq:=
 { x with s:={ x.s with ms:=x.s.ms.set v (ins (gt2 x.s.ms v) pl ⟨x.s.ev.length,o,owV x v pl w o f⟩),mo:=x.s.mo.set v (ins (gt2 x.s.mo v) pl x.s.ev.length),vs:=x.s.vs.set k (w.set v x.s.ev.length) },e:={ x.e with wr:=o },mp:=x.mp+1,op:=x.op+1 }
theorem run67r (pv v:Nat) (l:List (List Int)) (w:List Int) (h:l[v]?=some w) (hl:w.length<10000000000):K 67 [.rsl ((0,0),v+1,0) pv 1 0 w.length] [.fam 0 pv false (l.map ownC)]=some (.rsl ((0,1),0,0) 0 1 0 w.length,[.fam 0 pv false (l.map ownC),aI 0 w]):=by
 have h1:8*(w.length:Int)≤1099511627776:=by omega
 have h2:(w.length:Int)≤1099511627776:=by omega
 refine ce rfl ?_;simp[h1,h2,h]
theorem setM {ms:List (List Msg)} {L:List Msg} {v pl:Nat} {b:Msg} {d:Dat} (h:d=MsD b):(ms.map cowM).set v (Cell.own true false 3 ((L.map MsD).set pl d))=(ms.map cowM).set v (cowM (L.set pl b)):=by
 subst h
 show _=(ms.map cowM).set v (.own true false 3 ((L.set pl b).map MsD))
 rw[List.map_set]
theorem map_setM (l:List (List Msg)) (k:Nat) (r:List Msg):List.map cowM (l.set k r)=(List.map cowM l).set k (cowM r):=List.map_set
theorem run168n (x:Stq) (k v pl:Nat) (w:List Int) (o:Int) (l:List Msg) (mo:List Int) (hk:x.ix=k) (hi:x.i.o=v) (hw:x.s.vs[k]?=some w) (hv:v<w.length) (hl:x.s.ms[v]?=some l) (hmo:x.s.mo[v]?=some mo) (hp:pl≤l.length) (hp2:pl≤mo.length) (hx:Ix k∧Ix v∧Ix pl)
  (hwl:w.length<1000000) (hll:l.length<1000000) (hmol:mo.length<1000000):K 168 [.ref ((0,0),0,0) 0,.dat (N (pl+1)),.dat (N o),.nils] (xO x n0 true)=some (.tup [],xO (wrX x k v pl w o none) n0 true):=by
 have h230:=run230 x true;obtain⟨w1,w2,w3⟩:=zca7 hw;obtain⟨l1,l2,l3⟩:=zca7 hl;obtain⟨o1,o2,o3⟩:=zca7 hmo;obtain⟨a,ha⟩:∃a,w[v]?=some a:=⟨_,List.getElem?_eq_getElem hv⟩;obtain⟨a1,a2,a3⟩:=zca7 ha;have r1:=(zca7 (zvb7 (0,7) x.vp hw)).1;have r2:=(zca7 (row_get3 (0,6) x.mp hl)).1;have r3:=(zca7 (zvb7 (0,12) x.op hmo)).1;have h124:=run124 w.length hwl;have wp:IntKind.wrap .i64 (pl:Int)=pl:=wrap_i64 (by omega) (by omega);have h231:=fun v2=>run231 x.mp v l.length pl v2 x.s.ms l x.s.ev.length o hl rfl hp hll
 have h232:=fun v2=>run232 x.op v mo.length pl v2 x.s.mo mo x.s.ev.length hmo rfl hp2 hmol
 have L1:=zte7 l pl ⟨x.s.ev.length,o,[]⟩ hp;have L2:=insL_get l pl ⟨x.s.ev.length,o,[]⟩ hp;have L3:=fun b=>insL_set l pl ⟨x.s.ev.length,o,[]⟩ b hp
 have M1:=zte7 mo pl (x.s.ev.length:Int) hp2;have hgl:=zwd7 hl;have hgm:=zwd7 hmo;have hpL:pl<l.length+1:=by omega
 have hpi:(pl:Int)<l.length+1:=by omega
 have h67:=run67r x.vp k (x.s.vs.set k (w.set v x.s.ev.length)) (w.set v x.s.ev.length) (List.getElem?_set_self w3) (by simp;omega);simp[zrb7]at h67;generalize hL:ins l pl ⟨x.s.ev.length,o,[]⟩=L at *
 generalize hM:ins mo pl (x.s.ev.length:Int)=M at *
 have L4:=(zca7 L2).1;have r4:=(zca7 (row_get3 (0,6) (x.mp+1) (List.getElem?_set_self (a:=L) l3))).1;have r5:List.map cowM (x.s.ms.set v L)=(List.map cowM x.s.ms).set v (cowM L):=List.map_set;rw[r5,L1]at r4;refine ce rfl ?_;by_cases ho:x.e.ord=2
 ·simp[xB,xS,xM,hk,hi,ho]at h230;simp[r4,h230,h67,h231,h232,wp,L1,L2,L4,M1,hpL,hpi,zdd7,r1,r2,r3,hk,hi,hw,w1,w2,w3,ha,a1,a2,a3,hx.1,hx.2.1,hx.2.2,hl,l1,l2,l3,hmo,o1,o2,o3,ho,h124];simp[wrX,owV,hk,hi,ho,hgl,hgm,hM,zrb7,map_setM];simp only[←L3];exact setM (by simp)
 ·simp[xB,xS,xM,hk,hi,ho]at h230;simp[r4,h230,h67,h231,h232,wp,L1,L2,L4,M1,hpL,hpi,zdd7,r1,r2,r3,hk,hi,hw,w1,w2,w3,ha,a1,a2,a3,hx.1,hx.2.1,hx.2.2,hl,l1,l2,l3,hmo,o1,o2,o3,ho,h124];simp[wrX,owV,hk,hi,ho,hgl,hgm,hM,zrb7,map_setM];simp only[←L3];exact setM (by simp)
end Go.Am.E

set_option maxRecDepth 10000
set_option maxHeartbeats 16000000
namespace Go.Am.E
open Go.Proofs Go.Ex Go.Rc
attribute [local simp] MsD same_d same_r same_p same_n same_c ztc7 zuc7 zsc7 pairK zyc7 chgOf slim sameAt meets updT
theorem run168s (x:Stq) (k v pl:Nat) (w:List Int) (o:Int) (l:List Msg) (mo f:List Int) (hk:x.ix=k) (hi:x.i.o=v) (hw:x.s.vs[k]?=some w) (hv:v<w.length) (hl:x.s.ms[v]?=some l) (hmo:x.s.mo[v]?=some mo) (hp:pl≤l.length) (hp2:pl≤mo.length) (hx:Ix k∧Ix v∧Ix pl)
  (hwl:w.length<1000000) (hll:l.length<100000) (hmol:mo.length<1000000) (hfl:w.length≤f.length) (hwm:w.length≤x.s.ms.length) (hml:∀l∈x.s.ms,l.length<1000000):K 168 [.ref ((0,0),0,0) 0,.dat (N (pl+1)),.dat (N o),.rsl ((0,1),0,0) 0 1 0 f.length] (O96 .own x f)=some (.tup [],(O96 .own (wrX x k v pl w o (some f)) f).set 1 (.plain (.arr 1 0 true (f.map N)))):=by
 rcases f with _|⟨f0,f⟩
 ·exact absurd (Nat.lt_of_lt_of_le hv hfl) (by simp)
 have h230:=run230 x true;obtain⟨w1,w2,w3⟩:=zca7 hw;obtain⟨l1,l2,l3⟩:=zca7 hl;obtain⟨o1,o2,o3⟩:=zca7 hmo;obtain⟨a,ha⟩:∃a,w[v]?=some a:=⟨_,List.getElem?_eq_getElem hv⟩;obtain⟨a1,a2,a3⟩:=zca7 ha;have r1:=(zca7 (zvb7 (0,8) x.vp hw)).1;have r2:=(zca7 (row_get3 (0,7) x.mp hl)).1;have r3:=(zca7 (zvb7 (0,13) x.op hmo)).1;have h124:=run124 w.length hwl;have wp:IntKind.wrap .i64 (pl:Int)=pl:=wrap_i64 (by omega) (by omega);have h231:=fun v2=>run231 x.mp v l.length pl v2 x.s.ms l x.s.ev.length o hl rfl hp (by omega)
 have h232:=fun v2=>run232 x.op v mo.length pl v2 x.s.mo mo x.s.ev.length hmo rfl hp2 hmol
 have L1:=zte7 l pl ⟨x.s.ev.length,o,[]⟩ hp;have L2:=insL_get l pl ⟨x.s.ev.length,o,[]⟩ hp;have L3:=fun b=>insL_set l pl ⟨x.s.ev.length,o,[]⟩ b hp
 have M1:=zte7 mo pl (x.s.ev.length:Int) hp2;have hgl:=zwd7 hl;have hgm:=zwd7 hmo;have hpL:pl<l.length+1:=by omega
 have hpi:(pl:Int)<l.length+1:=by omega
 have h67:=run67r x.vp k (x.s.vs.set k (w.set v x.s.ev.length)) (w.set v x.s.ev.length) (List.getElem?_set_self w3) (by simp;omega);simp[zrb7]at h67;generalize hL:ins l pl ⟨x.s.ev.length,o,[]⟩=L at *
 generalize hM:ins mo pl (x.s.ev.length:Int)=M at *
 have L4:=(zca7 L2).1;have r4:=(zca7 (row_get3 (0,7) (x.mp+1) (List.getElem?_set_self (a:=L) l3))).1;have r5:List.map cowM (x.s.ms.set v L)=(List.map cowM x.s.ms).set v (cowM L):=List.map_set;rw[r5,L1]at r4
 have h96:=fun ow (hL:ow.length=w.length)=>run96 .own { x with s:={ x.s with ms:=x.s.ms.set v L,mo:=x.s.mo.set v M,vs:=x.s.vs.set k (w.set v x.s.ev.length) },e:={ x.e with wr:=o },mp:=x.mp+1,op:=x.op+1 } k 0 ow (f0::f) trivial (by omega) (by omega) (by simp;omega) (fun l' hl'=>by
  rcases List.mem_or_eq_of_mem_set hl' with h|rfl
  ·exact hml _ h
  ·rw[L1];omega)
 simp[xB,xS,xM,aT,fV,fM,fL,fS,xE,zrb7,map_setM,hk,hi]at h96;refine ce rfl ?_;by_cases ho:x.e.ord=2
 ·have h96:=h96 (w.set v x.s.ev.length) (by simp);have J1:=zcb7 (x.s.ms.set v L) (w.set v x.s.ev.length) (f0::f) 0;simp only[List.length_set,List.length_replicate]at J1;generalize hJ:jnV (x.s.ms.set v L) (w.set v x.s.ev.length) (f0::f) 0=J at *
  have J2:List.take w.length (List.map N J)=List.map N J:=List.take_of_length_le (by simp[J1]);simp[ho,aI_set,Ns_cons]at h96;simp[xB,xS,xM,hk,hi,ho]at h230;simp[J1,J2,r4,h96,h230,h67,h231,h232,wp,L1,L2,L4,M1,hpL,hpi,zdd7,r1,r2,r3,hk,hi,hw,w1,w2,w3,ha,a1,a2,a3,hx.1,hx.2.1,hx.2.2,hl,l1,l2,l3,hmo,o1,o2,o3,ho,h124];simp[wrX,owV,hL,hJ,hk,hi,ho,hgl,hgm,hM,zrb7,map_setM];simp only[←L3];exact setM (by simp)
 ·have h96:=h96 ((List.replicate w.length (-1)).set v x.s.ev.length) (by simp);have J1:=zcb7 (x.s.ms.set v L) ((List.replicate w.length (-1)).set v x.s.ev.length) (f0::f) 0;simp only[List.length_set,List.length_replicate]at J1;generalize hJ:jnV (x.s.ms.set v L) ((List.replicate w.length (-1)).set v x.s.ev.length) (f0::f) 0=J at *
  have J2:List.take w.length (List.map N J)=List.map N J:=List.take_of_length_le (by simp[J1]);simp[aI_set,Ns_cons]at h96;simp[xB,xS,xM,hk,hi,ho]at h230;simp[J1,J2,r4,h96,h230,h67,h231,h232,wp,L1,L2,L4,M1,hpL,hpi,zdd7,r1,r2,r3,hk,hi,hw,w1,w2,w3,ha,a1,a2,a3,hx.1,hx.2.1,hx.2.2,hl,l1,l2,l3,hmo,o1,o2,o3,ho,h124];simp[wrX,owV,hL,hJ,hk,hi,ho,hgl,hgm,hM,zrb7,map_setM];simp only[←L3];exact setM (by simp)
end Go.Am.E

set_option maxRecDepth 10000
set_option maxHeartbeats 16000000
namespace Go.Am.E
open Go.Proofs Go.Ex Go.Rc
attribute [local simp] MsD
abbrev O157 (x:Stq) (b:Bool) (es:List AVal):List TObj:=xB x (nF .own) b::.plain (.rarr 1 0 (es.map fun e=>[e]))::aT x::xM x b++fM x::fV x::fL x::fS x::xE x
abbrev eL (x:Stq) (b:Bool) (i:Nat) (o:List Int):AVal:=.rsl ((0,xj b 4+1),i+1,0) x.lp 1 0 o.length
abbrev eS (x:Stq) (b:Bool) (i:Nat) (o:List Int):AVal:=.rsl ((0,xj b 5+1),i+1,0) x.sp 1 0 o.length
def shL (x:Stq) (k i:Nat) (j:List Int):Stq:={ x with s:={ x.s with vs:=x.s.vs.set k j,lk:=x.s.lk.set i j } }
theorem run157L (x:Stq) (b:Bool) (k i:Nat) (v o:List Int) (hk:x.ix=k) (hv:x.s.vs[k]?=some v) (ho:x.s.lk[i]?=some o) (hvo:v.length=o.length) (hm:v.length≤x.s.ms.length) (hl:v.length<1000000) (hml:∀l∈x.s.ms,l.length<1000000) (ix:Ix k∧Ix i):
  K 157 [.ref ((0,0),0,0) 0,.rsl ((0,1),0,0) 0 1 0 1] (O157 x b [eL x b i o])=some (.tup [],O157 (shL x k i (jnV x.s.ms v o 0)) b [eL x b i o]):=by
 have h96:=run96 (.lk b) x k i v o ⟨hv,ho⟩ hl (by omega) hm hml;have hj:=zcb7 x.s.ms v o 0;obtain⟨v1,v2,v3⟩:=zca7 hv;obtain⟨o1,o2,o3⟩:=zca7 ho;have r1:=(zca7 (zvb7 (0,xj b 3+1) x.vp hv)).1;generalize jnV x.s.ms v o 0=J at *
 have e1:((x.s.vs.map ownC).set k (ownC J))[k]?=some (ownC J):=by rw[List.getElem?_set_self (by simpa using v3)]
 rcases b with _|_
 all_goals
  simp[xB,xS,xM,aT,fV,fM,fL,fS,xE,setV,zrb7]at h96 r1;refine ce rfl ?_;simp[hk,hv,v1,v2,v3,ho,o1,o2,o3,r1,ix.1,ix.2];simp only[zaa7];apply zya7;simp[h96];apply zya7;simp;simp only[zaa7];apply zya7;simp[o1,o2,o3,ho,e1,hj,hvo];apply zya7;simp[shL,zrb7]
def shS (x:Stq) (k i:Nat) (j:List Int):Stq:={ x with s:={ x.s with vs:=x.s.vs.set k j,sg:=x.s.sg.set i j } }
theorem run157S (x:Stq) (k i:Nat) (v o:List Int) (hk:x.ix=k) (hv:x.s.vs[k]?=some v) (ho:x.s.sg[i]?=some o) (hvo:v.length=o.length) (hm:v.length≤x.s.ms.length) (hl:v.length<1000000) (hml:∀l∈x.s.ms,l.length<1000000) (ix:Ix k∧Ix i):
  K 157 [.ref ((0,0),0,0) 0,.rsl ((0,1),0,0) 0 1 0 1] (O157 x false [eS x false i o])=some (.tup [],O157 (shS x k i (jnV x.s.ms v o 0)) false [eS x false i o]):=by
 have h96:=run96 .sg x k i v o ⟨hv,ho⟩ hl (by omega) hm hml;have hj:=zcb7 x.s.ms v o 0;obtain⟨v1,v2,v3⟩:=zca7 hv;obtain⟨o1,o2,o3⟩:=zca7 ho;have r1:=(zca7 (zvb7 (0,4) x.vp hv)).1;generalize jnV x.s.ms v o 0=J at *
 have e1:((x.s.vs.map ownC).set k (ownC J))[k]?=some (ownC J):=by rw[List.getElem?_set_self (by simpa using v3)]
 simp[xB,xS,xM,aT,fV,fM,fL,fS,xE,setV,zrb7]at h96 r1;refine ce rfl ?_;simp[hk,hv,v1,v2,v3,ho,o1,o2,o3,r1,ix.1,ix.2];simp only[zaa7];apply zya7;simp[h96];apply zya7;simp;simp only[zaa7];apply zya7;simp[o1,o2,o3,ho,e1,hj,hvo];apply zya7;simp[shS,zrb7]
def shW (x:Stq) (k i c:Nat) (v o u:List Int):Stq:={ x with s:={ x.s with vs:=x.s.vs.set k (jnV x.s.ms (jnV x.s.ms v o 0) u 0),lk:=x.s.lk.set i (jnV x.s.ms (jnV x.s.ms v o 0) u 0),sg:=x.s.sg.set c (jnV x.s.ms (jnV x.s.ms v o 0) u 0) } }
theorem run157W (x:Stq) (k i c:Nat) (v o u:List Int) (hk:x.ix=k) (hv:x.s.vs[k]?=some v) (ho:x.s.lk[i]?=some o) (hu:x.s.sg[c]?=some u) (hvo:v.length=o.length) (hvu:v.length=u.length) (hm:v.length≤x.s.ms.length) (hl:v.length<1000000) (hml:∀l∈x.s.ms,l.length<1000000) (ix:Ix k∧Ix i∧Ix c):
  K 157 [.ref ((0,0),0,0) 0,.rsl ((0,1),0,0) 0 1 0 2] (O157 x false [eL x false i o,eS x false c u])=some (.tup [],O157 (shW x k i c v o u) false [eL x false i o,eS x false c u]):=by
 have h96:=run96 (.lk false) x k i v o ⟨hv,ho⟩ hl (by omega) hm hml;have hj:=zcb7 x.s.ms v o 0;obtain⟨v1,v2,v3⟩:=zca7 hv;obtain⟨o1,o2,o3⟩:=zca7 ho;obtain⟨u1,u2,u3⟩:=zca7 hu;have r1:=(zca7 (zvb7 (0,4) x.vp hv)).1;unfold shW;generalize jnV x.s.ms v o 0=J at *
 have h96':=run96 .sg (setV x k J) k c J u ⟨zre7 v3,hu⟩ (by omega) (by omega) (by show _≤x.s.ms.length;omega) hml;have hj':=zcb7 x.s.ms J u 0;rw[show (setV x k J).s.ms=x.s.ms from rfl]at h96';generalize jnV x.s.ms J u 0=J' at *
 have e1:((x.s.vs.map ownC).set k (ownC J'))[k]?=some (ownC J'):=by rw[List.getElem?_set_self (by simpa using v3)]
 simp[xB,xS,xM,aT,fV,fM,fL,fS,xE,setV,zrb7,hj]at h96 h96' r1;refine ce rfl ?_;simp[hk,hv,v1,v2,v3,ho,o1,o2,o3,r1,ix.1,ix.2.1,ix.2.2];simp only[zaa7];apply zya7;simp[h96];apply zya7;simp[h96'];apply zya7;simp;simp only[zaa7];apply zya7;simp[o1,o2,o3,ho,e1,hj,hj',hvo];apply zya7;have hou:u.length=o.length:=by omega
 simp[u1,u2,u3,hu,e1,hj,hj',hvo,hou];apply zya7;have d:List.drop o.length (List.map N u)=[]:=List.drop_eq_nil_of_le (by simp;omega);simp[zrb7,hk,hou,d]
end Go.Am.E

set_option maxRecDepth 10000
set_option maxHeartbeats 16000000
namespace Go.Am.E
open Go.Proofs Go.Ex Go.Rc
attribute [local simp] MsD same_d same_r same_p same_n same_c ztc7 zuc7 zsc7 pairK zyc7 chgOf slim sameAt meets updT
abbrev meX (x:Stq) (m:Me) (e:Int):Stq:={ x with s:={ x.s with me:=m },er:=e }
abbrev koX (x:Stq) (d o:Int):Stq:={ x with e:={ x.e with kind:=d,obj:=o } }
def memM (e:Int) (m:Me):Me:=if e=0 then m else ⟨[],[],[],[]⟩
theorem memP_eq (e:Int) (m:Me):memP e m=.tup [.dat (MD (memM e m)),.dat (N e)]:=by
 unfold memP memM;split
 ·rename_i h;rw[h]
 ·rfl
@[simp] def nJ (j:Nat):Nat:=if j≤1 then j else j+4
abbrev jM (m:Me):List TObj:=[.plain (.arr 1 0 true (m.va.map N)),.plain (.arr 1 0 true (m.ow.map N)),.fam 0 m.qu.length true (m.qu.map (Cell.freeze∘ownC)),.plain (.arr 1 0 true (m.sg.map N))]
abbrev xJ (x:Stq) (m:Me):List TObj:=xB x nJ false::aT x::jM m++fM x::fV x::fL x::fS x::xE x
abbrev reX (x:Stq) (d:Int):Stq:={ x with re:=d }
structure Mx (s:Ra) (ix:Int) (k i:Nat) (v o:List Int):Prop where
 hk:ix=k
 hv:s.vs[k]?=some v
 ho:s.lk[i]?=some o
 hvo:v.length=o.length
 hm:v.length≤s.ms.length
 hl:v.length<1000000
 hml:∀l∈s.ms,l.length<1000000
 ix:Ix k∧Ix i
 me:Mb s.me
def tkX (x:Stq) (k i:Nat) (v o:List Int):Stq:=shL (meX (koX x 9 i) (memM (ownE x.s.me i x.e.ag (-1)) (Go.Ex.ownM x.s.me i x.e.ag)) (ownE x.s.me i x.e.ag (-1))) k i (jnV x.s.ms v o 0)
theorem run155 (x:Stq) (k i:Nat) (v o:List Int) (h:Mx x.s x.ix k i v o):K 155 [.ref ((0,0),0,0) 0,.dat (N i)] (xO x n0 true)=some (.tup [],xJ (tkX x k i v o) x.s.me):=by
 have h158:=run158 x.s.me h.me i x.e.ag;have h157:=run157L (meX (koX x 9 i) (memM (ownE x.s.me i x.e.ag (-1)) (Go.Ex.ownM x.s.me i x.e.ag)) (ownE x.s.me i x.e.ag (-1))) false k i v o h.hk h.hv h.ho h.hvo h.hm h.hl h.hml h.ix;obtain⟨o1,o2,o3⟩:=zca7 h.ho;have r1:=(zca7 (zvb7 (0,4) x.lp h.ho)).1;have r2:=(zca7 (zvb7 (0,8) x.lp h.ho)).1;unfold tkX;rw[memP_eq]at h158;generalize memM (ownE x.s.me i x.e.ag (-1)) (Go.Ex.ownM x.s.me i x.e.ag)=M at *
 generalize ownE x.s.me i x.e.ag (-1)=E at *
 generalize shL (meX (koX x 9 i) M E) k i (jnV x.s.ms v o 0)=Z at *
 simp[xB,xS,xM,aT,fV,fM,fL,fS,xE,eL,eS]at h157;refine ce rfl ?_;simp[h158,h157,h.ho,o1,o2,o3,r1,r2,h.ix.1,h.ix.2]
def mxX (x:Stq) (k i:Nat) (v o:List Int):Stq:=
 if x.i.op=15 then tkX x k i v o
 else if x.i.op=16 then shL (meX (koX x 10 i) (memM (ownE x.s.me i x.e.ag x.e.ag) (Go.Ex.ownM x.s.me i (-1))) (ownE x.s.me i x.e.ag x.e.ag)) k i (jnV x.s.ms v o 0)
 else if freM x.s.me i then shL (reX { meX (koX x 11 i) (memM (ownE x.s.me i x.e.ag (-1)) (Go.Ex.ownM x.s.me i x.e.ag)) (ownE x.s.me i x.e.ag (-1)) with e:={ (koX x 11 i).e with rd:=1 } } 1) k i (jnV x.s.ms v o 0)
 else shL (koX x 11 i) k i (jnV x.s.ms v o 0)
def mxB (x:Stq) (i:Nat):Bool:=decide (x.i.op=17)&&!freM x.s.me i
theorem run92 (x:Stq) (k i:Nat) (v o:List Int) (h:Mx x.s x.ix k i v o) (hi:x.i.o=i) (hop:x.i.op=15∨x.i.op=16∨x.i.op=17):K 92 [.ref ((0,0),0,0) 0] (xO x n0 true)=some (.tup [],if mxB x i then xO (mxX x k i v o) n0 true else xJ (mxX x k i v o) x.s.me):=by
 obtain⟨o1,o2,o3⟩:=zca7 h.ho;have r1:=(zca7 (zvb7 (0,4) x.lp h.ho)).1;have r2:=(zca7 (zvb7 (0,8) x.lp h.ho)).1;rcases hop with hop|hop|hop
 ·have h155:=run155 x k i v o h;have e:mxX x k i v o=tkX x k i v o:=by simp[mxX,hop]
  have e2:mxB x i=false:=by simp[mxB,hop]
  rw[e,e2];generalize tkX x k i v o=Z at *
  refine ce rfl ?_;simp[xB,xS,xM,hi,hop]at h155;simp[h155,hi,hop]
 ·have h156:=run156 x.s.me h.me i x.e.ag;have h157:=run157L (meX (koX x 10 i) (memM (ownE x.s.me i x.e.ag x.e.ag) (Go.Ex.ownM x.s.me i (-1))) (ownE x.s.me i x.e.ag x.e.ag)) false k i v o h.hk h.hv h.ho h.hvo h.hm h.hl h.hml h.ix;have e:mxX x k i v o=shL (meX (koX x 10 i) (memM (ownE x.s.me i x.e.ag x.e.ag) (Go.Ex.ownM x.s.me i (-1))) (ownE x.s.me i x.e.ag x.e.ag)) k i (jnV x.s.ms v o 0):=by simp[mxX,hop]
  have e2:mxB x i=false:=by simp[mxB,hop]
  rw[e,e2];rw[memP_eq]at h156;generalize memM (ownE x.s.me i x.e.ag x.e.ag) (Go.Ex.ownM x.s.me i (-1))=M at *
  generalize ownE x.s.me i x.e.ag x.e.ag=E at *
  generalize shL (meX (koX x 10 i) M E) k i (jnV x.s.ms v o 0)=Z at *
  simp[xB,xS,xM,aT,fV,fM,fL,fS,xE,eL,eS,hi,hop]at h157;refine ce rfl ?_;simp[h156,h157,hi,hop,h.ho,o1,o2,o3,r1,r2,h.ix.1,h.ix.2]
 ·have h141:=run141 x.s.me h.me i;by_cases c:freM x.s.me i
  ·have h158:=run158 x.s.me h.me i x.e.ag;have h157:=run157L (reX { meX (koX x 11 i) (memM (ownE x.s.me i x.e.ag (-1)) (Go.Ex.ownM x.s.me i x.e.ag)) (ownE x.s.me i x.e.ag (-1)) with e:={ (koX x 11 i).e with rd:=1 } } 1) false k i v o h.hk h.hv h.ho h.hvo h.hm h.hl h.hml h.ix;have e:mxX x k i v o=shL (reX { meX (koX x 11 i) (memM (ownE x.s.me i x.e.ag (-1)) (Go.Ex.ownM x.s.me i x.e.ag)) (ownE x.s.me i x.e.ag (-1)) with e:={ (koX x 11 i).e with rd:=1 } } 1) k i (jnV x.s.ms v o 0):=by simp[mxX,hop,c]
   have e2:mxB x i=false:=by simp[mxB,c]
   rw[e,e2];rw[memP_eq]at h158;rw[c]at h141;generalize memM (ownE x.s.me i x.e.ag (-1)) (Go.Ex.ownM x.s.me i x.e.ag)=M at *
   generalize ownE x.s.me i x.e.ag (-1)=E at *
   generalize shL (reX { meX (koX x 11 i) M E with e:={ (koX x 11 i).e with rd:=1 } } 1) k i (jnV x.s.ms v o 0)=Z at *
   simp[xB,xS,xM,aT,fV,fM,fL,fS,xE,eL,eS,hi,hop]at h157;refine ce rfl ?_;simp[h141,h158,h157,hi,hop,h.ho,o1,o2,o3,r1,r2,h.ix.1,h.ix.2]
  ·have h157:=run157L (koX x 11 i) true k i v o h.hk h.hv h.ho h.hvo h.hm h.hl h.hml h.ix;have e:mxX x k i v o=shL (koX x 11 i) k i (jnV x.s.ms v o 0):=by simp[mxX,hop,c]
   have e2:mxB x i=true:=by simp[mxB,hop,c]
   rw[e,e2];simp only[Bool.not_eq_true]at c;rw[c]at h141;generalize shL (koX x 11 i) k i (jnV x.s.ms v o 0)=Z at *
   simp[xB,xS,xM,aT,fV,fM,fL,fS,xE,eL,eS,hi,hop]at h157;refine ce rfl ?_;simp[h141,h157,hi,hop,h.ho,o1,o2,o3,r1,r2,h.ix.1,h.ix.2]
end Go.Am.E

set_option maxRecDepth 10000
set_option maxHeartbeats 16000000
namespace Go.Am.E
open Go.Proofs Go.Ex Go.Rc
attribute [local simp] MsD same_d same_r same_p same_n same_c ztc7 zuc7 zsc7 pairK zyc7 chgOf slim sameAt meets updT
abbrev kdX (x:Stq) (d:Int):Stq:={ x with e:={ x.e with kind:=d } }
def upX (x:Stq) (k v:Nat) (w:List Int) (c:Nat) (o:Int):Stq:=match c with
 |0=>reX (wrX (rd0 (kdX x 5) k v w) k v 0 (w.set v (-1)) o none) (atV x.p x.s v 0)
 |c+1=>match (gt2 x.s.ms v)[c]? with
  |none=>x
  |some m=>reX (wrX (rd1 (kdX x 5) k v w m) k v (c+1) (if x.e.ord=2 then jnV x.s.ms (w.set v m.ev) m.vw 0 else w.set v m.ev) o (some m.vw)) m.val
theorem run169z (x:Stq) (k v:Nat) (w:List Int) (o:Int) (l:List Msg) (mo:List Int) (hk:x.ix=k) (hi:x.i.o=v) (hc:x.ch=0) (hw:x.s.vs[k]?=some w) (hv:v<w.length) (hl:x.s.ms[v]?=some l) (hmo:x.s.mo[v]?=some mo) (hp:v<x.p.vs.length) (hx:Ix k∧Ix v)
  (hwl:w.length<1000000) (hll:l.length<100000) (hmol:mo.length<1000000):K 169 [.ref ((0,0),0,0) 0,.dat (N o)] (xO x n0 true)=some (.tup [],xO (upX x k v w 0 o) n0 true):=by
 have h167:=run167z (kdX x 5) true k v w hk hi hw hv hp hx;have h168:=run168n (rd0 (kdX x 5) k v w) k v 0 (w.set v (-1)) o l mo hk hi (zre7 (zca7 hw).2.2) (by simpa using hv) hl hmo (by omega) (by omega) ⟨hx.1,hx.2,by unfold Ix;omega⟩ (by simpa using hwl) (by omega) hmol;have hu:upX x k v w 0 o=reX (wrX (rd0 (kdX x 5) k v w) k v 0 (w.set v (-1)) o none) (atV x.p x.s v 0):=rfl;rw[hu];have hrd:(wrX (rd0 (kdX x 5) k v w) k v 0 (w.set v (-1)) o none).e.rd=atV x.p x.s v 0:=rfl;generalize wrX (rd0 (kdX x 5) k v w) k v 0 (w.set v (-1)) o none=Z at *
 generalize atV x.p x.s v 0=A at *
 refine ce rfl ?_;simp[xB,xS,xM,rd0,setV,zrb7,hk,hi,hc]at h167 h168;simp[h167,h168,hk,hi,hc];exact hrd
theorem run169s (x:Stq) (k v c:Nat) (w:List Int) (o:Int) (l:List Msg) (mo:List Int) (m:Msg) (hk:x.ix=k) (hi:x.i.o=v) (hc:x.ch=c+1) (hw:x.s.vs[k]?=some w) (hv:v<w.length) (hl:x.s.ms[v]?=some l) (hm:l[c]?=some m) (hmo:x.s.mo[v]?=some mo) (hx:Ix k∧Ix v)
  (hml':l.length=mo.length) (hwl:w.length<1000000) (hmv:m.vw.length=w.length) (hwm:w.length≤x.s.ms.length) (hml:∀l∈x.s.ms,l.length<100000):K 169 [.ref ((0,0),0,0) 0,.dat (N o)] (xO x n0 true)=some (.tup [],xO (upX x k v w (c+1) o) n0 true):=by
 have hcl:=(zca7 hm).2.2;have hll:=hml l (List.mem_of_getElem? hl);have h167:=run167s (kdX x 5) k v c w l m hk hi hw hv hl hm ⟨hx.1,hx.2,by unfold Ix;omega⟩ hwl (by omega) hwm (fun l h=>by have:=hml l h;omega);have hu:upX x k v w (c+1) o=reX (wrX (rd1 (kdX x 5) k v w m) k v (c+1) (if x.e.ord=2 then jnV x.s.ms (w.set v m.ev) m.vw 0 else w.set v m.ev) o (some m.vw)) m.val:=by simp[upX,zwd7 hl,hm]
 rw[hu];have hwl':(if x.e.ord=2 then jnV x.s.ms (w.set v m.ev) m.vw 0 else w.set v m.ev).length=w.length:=by split<;>simp[zcb7]
 have hw':(rd1 (kdX x 5) k v w m).s.vs[k]?=some (if x.e.ord=2 then jnV x.s.ms (w.set v m.ev) m.vw 0 else w.set v m.ev):=zre7 (zca7 hw).2.2;have h168:=run168s (rd1 (kdX x 5) k v w m) k v (c+1) _ o l mo m.vw hk hi hw' (by omega) hl hmo (by omega) (by omega) ⟨hx.1,hx.2,by unfold Ix;omega⟩ (by omega) hll (by omega) (by omega) (by rw[hwl'];exact hwm) (fun l h=>by have:=hml l h;omega);have hrd:(wrX (rd1 (kdX x 5) k v w m) k v (c+1) (if x.e.ord=2 then jnV x.s.ms (w.set v m.ev) m.vw 0 else w.set v m.ev) o (some m.vw)).e.rd=m.val:=rfl;generalize wrX (rd1 (kdX x 5) k v w m) k v (c+1) (if x.e.ord=2 then jnV x.s.ms (w.set v m.ev) m.vw 0 else w.set v m.ev) o (some m.vw)=Z at *
 generalize hW:(if x.e.ord=2 then jnV x.s.ms (w.set v m.ev) m.vw 0 else w.set v m.ev)=W at *
 have h67:=run67 m.vw (by omega);have r3:=(zca7 (row_get3 (0,6) x.mp hl)).1;have hc1:(0:Int)<(c:Int)+1:=by omega
 have wc:IntKind.wrap .i64 (c:Int)=c:=wrap_i64 (by omega) (by omega);have wc1:IntKind.wrap .i64 ((c:Int)+1)=c+1:=wrap_i64 (by omega) (by omega);have wc2:IntKind.wrap .i64 ((c:Int)+1+1)=c+1+1:=wrap_i64 (by omega) (by omega);obtain⟨l1,l2,l3⟩:=zca7 hl;obtain⟨m1,m2,m3⟩:=zca7 hm;have hrw:rd1 (kdX x 5) k v w m={ setV (kdX x 5) k W with e:={ (kdX x 5).e with rd:=m.val },rf:=m.ev }:=by rw[←hW];rfl
 rw[hrw]at h167 h168;obtain⟨me,mva,mvw⟩:=m;dsimp only at h67 h167 h168 hrd hmv;refine ce rfl ?_;simp[xB,xS,xM,setV,aT,fV,fM,fL,fS,xE,zrb7,hk,hi,hc]at h167 h168;simp[h167,h168,h67,hk,hi,hc,hc1,wc,wc1,wc2,r3,hl,l1,l2,l3,hm,m1,m2,m3];exact hrd
end Go.Am.E

set_option maxRecDepth 10000
set_option maxHeartbeats 16000000
namespace Go.Am.E
open Go.Proofs Go.Ex Go.Rc
attribute [local simp] same_d same_r same_p same_n same_c ztc7 zuc7 zsc7 pairK zyc7 chgOf slim sameAt meets updT
theorem w32_wrap (n:Int):w32 (IntKind.wrap .i64 n)=w32 n:=by
 apply w32_mod;simp[IntKind.wrap,IntKind.bits,IntKind.signed];split<;>omega
structure Ac (p:Pg) (s:Ra) (ix:Int) (i:In) (k v:Nat) (w:List Int) (l:List Msg) (mo:List Int):Prop where
 hk:ix=k
 hi:i.o=v
 hw:s.vs[k]?=some w
 hv:v<w.length
 hl:s.ms[v]?=some l
 hmo:s.mo[v]?=some mo
 he:l.length=mo.length
 hp:v<p.vs.length
 hx:Ix k∧Ix v
 hwl:w.length<1000000
 hwm:w.length≤s.ms.length
 hml:∀l∈s.ms,l.length<100000
 hmv:∀m∈l,m.vw.length=w.length
def rdX (x:Stq) (k v:Nat) (w:List Int) (c:Nat):Stq:=match c with
 |0=>rd0 x k v w
 |c+1=>match (gt2 x.s.ms v)[c]? with
  |none=>x
  |some m=>rd1 x k v w m
theorem run167 (x:Stq) (k v c:Nat) (w:List Int) (l:List Msg) (mo:List Int) (h:Ac x.p x.s x.ix x.i k v w l mo) (hc:c≤l.length):K 167 [.ref ((0,0),0,0) 0,.dat (N c)] (xO x n0 true)=some (.tup [],xO (rdX x k v w c) n0 true):=by
 have:=h.hml l (List.mem_of_getElem? h.hl);cases c with
 |zero=>exact run167z x true k v w h.hk h.hi h.hw h.hv h.hp h.hx
 |succ c=>
  obtain⟨m,hm⟩:∃m,l[c]?=some m:=⟨_,List.getElem?_eq_getElem (show c<l.length by omega)⟩;have e:rdX x k v w (c+1)=rd1 x k v w m:=by simp[rdX,zwd7 h.hl,hm]
  rw[e];exact run167s x k v c w l m h.hk h.hi h.hw h.hv h.hl hm ⟨h.hx.1,h.hx.2,by unfold Ix;omega⟩ h.hwl (by have:=h.hmv m (List.mem_of_getElem? hm);omega) h.hwm (fun l hl=>by have:=h.hml l hl;omega)
theorem run169 (x:Stq) (k v c:Nat) (w:List Int) (l:List Msg) (mo:List Int) (o:Int) (h:Ac x.p x.s x.ix x.i k v w l mo) (hc:c≤l.length) (hch:x.ch=c):K 169 [.ref ((0,0),0,0) 0,.dat (N o)] (xO x n0 true)=some (.tup [],xO (upX x k v w c o) n0 true):=by
 have:=h.hml l (List.mem_of_getElem? h.hl);have:=h.he;cases c with
 |zero=>exact run169z x k v w o l mo h.hk h.hi hch h.hw h.hv h.hl h.hmo h.hp h.hx h.hwl (by omega) (by omega)
 |succ c=>
  obtain⟨m,hm⟩:∃m,l[c]?=some m:=⟨_,List.getElem?_eq_getElem (show c<l.length by omega)⟩;exact run169s x k v c w o l mo m h.hk h.hi (by omega) h.hw h.hv h.hl hm h.hmo h.hx h.he h.hwl (h.hmv m (List.mem_of_getElem? hm)) h.hwm h.hml
abbrev obX (x:Stq) (o r:Int):Stq:={ x with e:={ x.e with obj:=o,ord:=r } }
def acX (x:Stq) (t:Th) (k v:Nat) (w:List Int) (c:Nat):Stq:=
 let y:=obX x x.i.o x.i.r
 if x.i.op=8∨x.i.op=14 then reX (rdX (kdX y (if x.i.op=14 then 8 else 1)) k v w c) (rdX (kdX y (if x.i.op=14 then 8 else 1)) k v w c).e.rd
 else if x.i.op=9 then wrX (kdX y 2) k v (c-1) w (reg t x.i.b) none
 else if x.i.op=10 then upX y k v w c (reg t x.i.b)
 else if x.i.op=11 then upX y k v w c (w32 (atV x.p x.s v c+reg t x.i.b))
 else if atV x.p x.s v c=reg t x.i.b then reX (upX y k v w c (reg t x.i.c)) 1
 else rdX (kdX y 6) k v w c
theorem run97 (x:Stq) (t:Th) (k v c:Nat) (w:List Int) (l:List Msg) (mo:List Int) (h:Ac x.p x.s x.ix x.i k v w l mo) (ht:x.s.th[k]?=some t) (hr:rgs x.i) (hch:x.ch=c)
  (hc:(x.i.op=9∧1≤c∧c≤l.length+1)∨((x.i.op=8∨x.i.op=10∨x.i.op=11∨x.i.op=12∨x.i.op=14)∧c≤l.length)):K 97 [.ref ((0,0),0,0) 0] (xO x n0 true)=some (.tup [],xO (acX x t k v w c) n0 true):=by
 obtain⟨t1,t2,t3⟩:=zca7 ht;obtain⟨-,r2,r3⟩:=hr;have hk:=h.hk;have hi:=h.hi;rcases hc with⟨o,c1,c2⟩|⟨o,c1⟩
 ·rw[o]at r2;obtain⟨j,hj,j1,j2,j3,j4⟩:=rg8 (r2 rfl);have h168:=run168n (kdX (obX x x.i.o x.i.r) 2) k v (c-1) w (t.rg j) l mo h.hk h.hi h.hw h.hv h.hl h.hmo (by omega) (by have:=h.he;omega) ⟨h.hx.1,h.hx.2,by have:=h.hml l (List.mem_of_getElem? h.hl);unfold Ix;omega⟩ h.hwl (by have:=h.hml l (List.mem_of_getElem? h.hl);omega) (by have:=h.he;have:=h.hml l (List.mem_of_getElem? h.hl);omega);have e:acX x t k v w c=wrX (kdX (obX x x.i.o x.i.r) 2) k v (c-1) w (t.rg j) none:=by simp[acX,o,hj,reg]
  have ec:((c-1:Nat):Int)+1=c:=by omega
  rw[e];rw[ec]at h168;generalize wrX (kdX (obX x x.i.o x.i.r) 2) k v (c-1) w (t.rg j) none=Z at *
  refine ce rfl ?_;simp[xB,xS,xM,hk,hi,o,hj,hch]at h168;simp[h168,hk,hi,hch,o,ht,t1,t2,t3,hj,j1,j2,j3,j4,zqb7,zjd7,reg]
 ·have hcb:c<1000000:=by have:=h.hml l (List.mem_of_getElem? h.hl);omega
  have h143:=run143 x.p x.s v c (fun _=>h.hp) (fun hc=>⟨(zca7 h.hl).2.2,by rw[zwd7 h.hl];omega⟩) (by omega);have h167:=fun d=>run167 (kdX (obX x x.i.o x.i.r) d) k v c w l mo h c1
  have h169:=fun o=>run169 (obX x x.i.o x.i.r) k v c w l mo o h c1 hch
  have h100:=run100;rcases o with o|o|o|o|o
  ·have e:acX x t k v w c=reX (rdX (kdX (obX x x.i.o x.i.r) 1) k v w c) (rdX (kdX (obX x x.i.o x.i.r) 1) k v w c).e.rd:=by simp[acX,o]
   rw[e];have h167:=h167 1;generalize rdX (kdX (obX x x.i.o x.i.r) 1) k v w c=Z at *
   refine ce rfl ?_;simp[xB,xS,xM,hk,hi,o,hch]at h167;simp[h167,hk,hi,hch,o,ht,t1,t2,t3]
   done
  ·rw[o]at r2;obtain⟨j,hj,j1,j2,j3,j4⟩:=rg8 (r2 rfl);have e:acX x t k v w c=upX (obX x x.i.o x.i.r) k v w c (t.rg j):=by simp[acX,o,hj,reg]
   rw[e];have h169:=h169 (t.rg j);generalize upX (obX x x.i.o x.i.r) k v w c (t.rg j)=Z at *
   refine ce rfl ?_;simp[xB,xS,xM,hk,hi,o,hj,hch]at h169;simp[h169,hk,hi,hch,o,ht,t1,t2,t3,hj,j1,j2,j3,j4,zqb7,zjd7,reg]
   done
  ·rw[o]at r2;obtain⟨j,hj,j1,j2,j3,j4⟩:=rg8 (r2 rfl);have e:acX x t k v w c=upX (obX x x.i.o x.i.r) k v w c (w32 (atV x.p x.s v c+t.rg j)):=by simp[acX,o,hj,reg]
   rw[e];have h169:=h169 (w32 (atV x.p x.s v c+t.rg j));generalize upX (obX x x.i.o x.i.r) k v w c (w32 (atV x.p x.s v c+t.rg j))=Z at *
   generalize atV x.p x.s v c=A at *
   refine ce rfl ?_;simp[xB,xS,xM,hk,hi,o,hj,hch]at h169;simp[h169,h143,h100,w32_wrap,hk,hi,hch,o,ht,t1,t2,t3,hj,j1,j2,j3,j4,zqb7,zjd7,reg]
   done
  ·rw[o]at r2 r3;obtain⟨j,hj,j1,j2,j3,j4⟩:=rg8 (r2 rfl);obtain⟨u,hu,u1,u2,u3,u4⟩:=rg8 (r3 rfl);by_cases hA:atV x.p x.s v c=t.rg j
   ·have e:acX x t k v w c=reX (upX (obX x x.i.o x.i.r) k v w c (t.rg u)) 1:=by simp[acX,o,hj,hu,reg,hA]
    rw[e];have h169:=h169 (t.rg u);generalize upX (obX x x.i.o x.i.r) k v w c (t.rg u)=Z at *
    rw[hA]at h143;refine ce rfl ?_;simp[xB,xS,xM,hk,hi,o,hj,hu,hch]at h169;simp[h169,h143,hk,hi,hch,o,ht,t1,t2,t3,hj,j1,j2,j3,j4,hu,u1,u2,u3,u4,zqb7,zjd7,reg]
    done
   ·have e:acX x t k v w c=rdX (kdX (obX x x.i.o x.i.r) 6) k v w c:=by simp[acX,o,hj,reg,hA]
    rw[e];have h167:=h167 6;generalize rdX (kdX (obX x x.i.o x.i.r) 6) k v w c=Z at *
    generalize atV x.p x.s v c=A at *
    refine ce rfl ?_;simp[xB,xS,xM,hk,hi,o,hj,hch]at h167;simp[h167,h143,hk,hi,hch,o,ht,t1,t2,t3,hj,j1,j2,j3,j4,zqb7,zjd7,reg,hA]
    done
  ·have e:acX x t k v w c=reX (rdX (kdX (obX x x.i.o x.i.r) 8) k v w c) (rdX (kdX (obX x x.i.o x.i.r) 8) k v w c).e.rd:=by simp[acX,o]
   rw[e];have h167:=h167 8;generalize rdX (kdX (obX x x.i.o x.i.r) 8) k v w c=Z at *
   refine ce rfl ?_;simp[xB,xS,xM,hk,hi,o,hch]at h167;simp[h167,hk,hi,hch,o,ht,t1,t2,t3]
   done
end Go.Am.E

set_option maxRecDepth 10000
set_option maxHeartbeats 8000000
namespace Go.Am.E
open Go.Proofs Go.Ex Go.Rc
attribute [-simp] splice
attribute [local simp] zma7
abbrev sbx (s:Sa):TObj:=.plain (.box ((SXl s).map AVal.dat))
def oldT (L:List Th) (i:Nat) (t:Th):Bool:=match i with
 |0=>true
 |j+1=>match L[j]? with
  |some u=>decide (u.id<t.id)
  |none=>true
def vsF (p:Pg) (bd:Int) (L:List Th) (i:Nat) (t:Th):Option Unit:=if (okT p bd t&&oldT L i t)=true then none else some ()
theorem srt_scan (p:Pg) (bd:Int) (L:List Th):∀(r pre:List Th),L=pre++r→scan (vsF p bd L) r pre.length=if (r.all (okT p bd)&&(match pre.getLast? with
  |none=>srtT r
  |some u=>srtT (u::r)))=true then none else some ()
 |[],pre,_=>by cases pre.getLast?<;>simp[scan,srtT]
 |t::r,pre,h=>by
  have ih:=srt_scan p bd L r (pre++[t]) (by rw[h];simp);rw[List.length_append,List.length_singleton,List.getLast?_append]at ih;simp only[List.getLast?_singleton,Option.some_or]at ih;simp only[scan,vsF,List.all_cons]
  have ho:oldT L pre.length t=match pre.getLast? with
    |none=>true
    |some u=>decide (u.id<t.id):=by
   rcases List.eq_nil_or_concat pre with rfl|⟨q,u,rfl⟩
   ·rfl
   ·rw[h];simp[oldT]
  rw[ho];rcases Bool.eq_false_or_eq_true (okT p bd t) with c|c
  ·rcases hp:pre.getLast? with _|u
   ·simp only[c,Bool.and_self,if_true,Bool.true_and];rw[ih]
    congr
   ·by_cases c2:u.id<t.id
    ·simp only[c,c2,decide_true,Bool.and_self,if_true,Bool.true_and,srtT];rw[ih]
     congr
    ·simp only[c,c2,decide_false,Bool.and_false,if_false,Bool.false_eq_true,srtT,Bool.false_and]
  ·simp only[c,Bool.false_and,if_false,Bool.false_eq_true]
theorem srt_scan0 (p:Pg) (bd:Int) (L:List Th):scan (vsF p bd L) L 0=if (L.all (okT p bd)&&srtT L)=true then none else some ():=srt_scan p bd L L [] rfl
end Go.Am.E

set_option maxRecDepth 10000
set_option maxHeartbeats 8000000
namespace Go.Am.E
open Go.Proofs Go.Ex Go.Rc
abbrev EV (e:Evt):AVal:=.agg [.dat (N e.ag),.dat (N e.idx),.dat (N e.kind),.dat (N e.obj),.dat (N e.mux),.dat (N e.ent),.dat (N e.ord),.dat (N e.rd),.dat (N e.wr)]
def waiE (t:Th) (i:In) (e:Evt):Evt:=if t.ph=0 then { e with kind:=12,mux:=i.n } else if t.ph=1 then { e with kind:=13 } else { e with kind:=9,obj:=i.n }
structure Pn (p:Pg) (m:Me) (i:In):Prop where
 hp:chP p=0
 hm:valM p m=true
 ii:∃n,insE p n i=0
theorem Pn.reg {p:Pg} {m:Me} {i:In} (h:Pn p m i):rgs i:=by
 obtain⟨n,hn⟩:=h.ii;exact (chI_ok (zde7 hn).1).2.1
theorem Pn.len {p:Pg} {m:Me} {i:In} (h:Pn p m i):frmM m=true∧m.va.length=p.vs.length∧m.ow.length=p.ms.length∧m.qu.length=p.cs.length:=by
 have:=h.hm;simp only[valM,Bool.and_eq_true,decide_eq_true_eq]at this;exact⟨this.1.2,this.2⟩
theorem inE_in {m:Me} {i:Int} {n:Nat} (h:frmM m=true) (h0:0≤i) (h1:i<n):inE m i n=0:=by
 unfold inE;rw[if_neg (by simp[h]),if_neg (by omega)]
theorem Pn.va {p:Pg} {m:Me} {i:In} (h:Pn p m i) (ho:i.op=8∨i.op=9∨i.op=10∨i.op=11∨i.op=12∨i.op=14):inE m i.o m.va.length=0:=by
 obtain⟨n,hn⟩:=h.ii;obtain⟨l1,l2,l3,l4⟩:=h.len;have h1:=(zde7 hn).2.2.1;have e:nob p i.op=p.vs.length:=by unfold nob;rw[if_pos ho]
 rw[e]at h1;have:=h1 (by omega);exact inE_in l1 (by omega) (by omega)
theorem Pn.ow {p:Pg} {m:Me} {i:In} (h:Pn p m i) (ho:i.op=15∨i.op=16∨i.op=17):inE m i.o m.ow.length=0:=by
 obtain⟨n,hn⟩:=h.ii;obtain⟨l1,l2,l3,l4⟩:=h.len;have h1:=(zde7 hn).2.2.1;have e:nob p i.op=p.ms.length:=by unfold nob;rw[if_neg (by omega),if_pos ho]
 rw[e]at h1;have:=h1 (by omega);exact inE_in l1 (by omega) (by omega)
theorem Pn.qu {p:Pg} {m:Me} {i:In} (h:Pn p m i) (ho:i.op=18∨i.op=19∨i.op=20):inE m i.o m.qu.length=0:=by
 obtain⟨n,hn⟩:=h.ii;obtain⟨l1,l2,l3,l4⟩:=h.len;have h1:=(zde7 hn).2.2.1;have e:nob p i.op=p.cs.length:=by unfold nob;rw[if_neg (by omega),if_neg (by omega),if_pos ho]
 rw[e]at h1;have:=h1 (by omega);exact inE_in l1 (by omega) (by omega)
def accE (m:Me) (t:Th) (i:In) (e:Evt):Evt:=
 let v:=geti m.va i.o
 let e:Evt:={ e with ord:=i.r,rd:=v,kind:=5 }
 if i.op=8 then { e with kind:=1 }
 else if i.op=14 then { e with kind:=8 }
 else if i.op=9 then { e with kind:=2,rd:=0,wr:=reg t i.b }
 else if i.op=10 then { e with wr:=reg t i.b }
 else if i.op=11 then { e with wr:=Go.Ex.appF 1 v (reg t i.b) }
 else if v=reg t i.b then { e with wr:=reg t i.c } else { e with kind:=6 }
end Go.Am.E

set_option maxRecDepth 10000
set_option maxHeartbeats 8000000
namespace Go.Am.E
open Go.Proofs Go.Ex Go.Rc
end Go.Am.E

set_option maxRecDepth 10000
set_option maxHeartbeats 8000000
namespace Go.Am.E
open Go.Proofs Go.Ex Go.Rc
attribute [-simp] splice
attribute [local simp] zma7
structure Vs (p:Pg) (bd:Int) (s:Sa):Prop where
 m:valM p s.me=true
 b:s.bu=[]
 t:∀t∈s.th,okT p bd t=true
 s:srtT s.th=true
def agT (p:Pg) (s:Sa) (t:Th):Option Int:=match penT p t with
 |some i=>if enaS s t i then some t.id else none
 |none=>none
def ags' (p:Pg) (s:Sa) (k:Nat):List Int:=(s.th.take k).filterMap (agT p s)
end Go.Am.E

set_option maxRecDepth 10000
set_option maxHeartbeats 8000000
namespace Go.Am.E
open Go.Proofs Go.Ex Go.Rc
abbrev ED0:Dat:=.agg [N 0,N 0,N 0,N 0,N 0,N 0,N 0,N 0,N 0]
def lblS (p:Pg) (s:Sa) (a:Int):Option Evt:=if valS p 32 s=true then (match Go.Ex.runS p s a with
 |some (_,t,i)=>some (labS s t i)
 |none=>none) else none
def evP:Option Evt→AVal
 |some e=>.tup [.dat (ED e),.dat (.bool true)]
 |none=>.tup [.dat ED0,.dat (.bool false)]
theorem Mb.sq {m:Me} (h:Mb m) (c:Int):m.sg.length+(getq m c).length<1000000000:=by
 have h1:=h.sg
 have:(getq m c).length<400000000:=by
  unfold getq;cases c1:m.qu[c.toNat]? with
  |none=>simp
  |some q=>exact h.qs q (List.mem_of_getElem? c1)
 omega
theorem ownM_mb {m:Me} (h:Mb m) (i v:Int):Mb (ownM m i v):=⟨h.va,by simp[ownM];exact h.ow,h.qu,h.qs,h.sg⟩
end Go.Am.E
