/- Parts of the proofs of the statement, joined and made short: AmMix AmDraw AmRun. -/
import Derived.Test.YtmoibjjpfemgjaaGreatDoorP9
import Derived.Test.YtmoibjjpfemgjaaGreatDoorP7
import Derived.LoopNIn
import Derived.Scope
import Derived.RangeFuncRecord
set_option linter.unusedVariables false
set_option linter.unusedSimpArgs false
set_option linter.unusedSectionVars false
namespace Go.Am
variable [Glob]
def dstAt (aos:List AO) (k:Nat):Option Nat:=(aos[k]?).bind (·.dst)
def outAt (outs:List TOut) (k:Nat):TOut:=(outs[k]?).getD (.undef,[])
def gM (aos:List AO) (outs:List TOut) (D:Nat→Bool) (g0:Nat→AVal):Nat→Nat→AVal
 |0=>g0
 |k+1=>fun t=>if D k=true∧dstAt aos k=some t then (outAt outs k).1 else gM aos outs D g0 k t
def rM (outs:List TOut) (D:Nat→Bool) (ρ0:TLook):Nat→TLook
 |0=>ρ0
 |k+1=>if D k=true then updT (rM outs D ρ0 k) (outAt outs k).2 else rM outs D ρ0 k
def zwc7 (outs:List TOut) (k:Nat):List RId:=(outAt outs k).2.map (·.1)
abbrev every:Nat→Bool:=fun _=>true
theorem zlf7:∀{upd:List (RId×TObj)} {ρ:TLook} {x:RId},x∉upd.map (·.1)→updT ρ upd x=ρ x
 |[],ρ,x,_=>rfl
 |(i,o)::r,ρ,x,h=>by
  simp only[List.map_cons,List.mem_cons,not_or]at h;rw[updT,zlf7 h.2,if_neg (fun e=>h.1 e.symm)]
theorem updT_at:∀{upd:List (RId×TObj)} {ρ ρ':TLook} {x:RId},(x∈upd.map (·.1)∨ρ x=ρ' x)→updT ρ upd x=updT ρ' upd x
 |[],ρ,ρ',x,h=>by simpa[updT]using h
 |(i,o)::r,ρ,ρ',x,h=>by
  simp only[updT];refine updT_at ?_;by_cases e:i=x
  ·exact .inr (by simp[e])
  ·simp only[List.map_cons,List.mem_cons]at h;rcases h with (h|h)|h
   ·exact absurd h.symm e
   ·exact .inl h
   ·exact .inr (by simp[e,h])
section
variable {aos:List AO} {outs:List TOut} {D:Nat→Bool} {g0:Nat→AVal} {ρ0:TLook}
theorem gM_agree {i t:Nat} (h1:∀k,k<i→dstAt aos k=some t→D k=true):∀(N:Nat),i≤N→(∀k,i≤k→k<N→dstAt aos k=some t→D k=false)→gM aos outs D g0 N t=gM aos outs every g0 i t:=by
 have low:∀n,n≤i→gM aos outs D g0 n t=gM aos outs every g0 n t:=by
  intro n
  induction n with
  |zero=>intro _;rfl
  |succ n ih=>
   intro hn;simp only[gM,ih (by omega)];by_cases hd:dstAt aos n=some t
   ·rw[if_pos ⟨h1 n (by omega) hd,hd⟩,if_pos ⟨trivial,hd⟩]
   ·rw[if_neg (fun x=>hd x.2),if_neg (fun x=>hd x.2)]
 intro N hN
 induction N with
 |zero=>
  intro _;have:i=0:=by omega
  subst this;rfl
 |succ N ih=>
  intro h2;by_cases e:i=N+1
  ·subst e;exact low _ (Nat.le_refl _)
  ·simp only[gM];rw[if_neg (fun x=>by rw[h2 N (by omega) (by omega) x.2]at x;exact absurd x.1 (by simp))];exact ih (by omega) fun k hk hk'=>h2 k hk (by omega)
theorem rM_agree {i:Nat} {x:RId} (h1:∀k,k<i→x∈zwc7 outs k→D k=true):∀(N:Nat),i≤N→(∀k,i≤k→k<N→x∈zwc7 outs k→D k=false)→rM outs D ρ0 N x=rM outs every ρ0 i x:=by
 have low:∀n,n≤i→rM outs D ρ0 n x=rM outs every ρ0 n x:=by
  intro n
  induction n with
  |zero=>intro _;rfl
  |succ n ih=>
   intro hn;simp only[rM,if_true];by_cases hd:x∈zwc7 outs n
   ·rw[if_pos (h1 n (by omega) hd)];exact updT_at (.inl hd)
   ·rw[zlf7 (upd:=(outAt outs n).2) hd];split
    ·rw[zlf7 (upd:=(outAt outs n).2) hd,ih (by omega)]
    ·exact ih (by omega)
 intro N hN
 induction N with
 |zero=>
  intro _;have:i=0:=by omega
  subst this;rfl
 |succ N ih=>
  intro h2;by_cases e:i=N+1
  ·subst e;exact low _ (Nat.le_refl _)
  ·simp only[rM];have hr:=ih (by omega) fun k hk hk'=>h2 k hk (by omega)
   by_cases hd:x∈zwc7 outs N
   ·rw[h2 N (by omega) (by omega) hd];exact hr
   ·split
    ·rw[zlf7 (upd:=(outAt outs N).2) hd];exact hr
    ·exact hr
def addD (D:Nat→Bool) (i:Nat):Nat→Bool:=fun k=>D k||k==i
theorem gM_add {i:Nat} (hD:D i=false) (t:Nat):∀(N:Nat),i<N→(∀k,i<k→k<N→dstAt aos i=some t→dstAt aos k=some t→D k=false)→
  gM aos outs (addD D i) g0 N t=if dstAt aos i=some t then (outAt outs i).1 else gM aos outs D g0 N t:=by
 have low:∀n,n≤i→gM aos outs (addD D i) g0 n t=gM aos outs D g0 n t:=by
  intro n
  induction n with
  |zero=>intro _;rfl
  |succ n ih=>
   intro hn;have hne:(n==i)=false:=by simp;omega
   simp only[gM,ih (by omega),addD,hne,Bool.or_false]
 intro N
 induction N with
 |zero=>intro h;omega
 |succ N ih=>
  intro hN hk;by_cases e:N=i
  ·subst e;simp only[gM,addD,BEq.rfl,Bool.or_true,true_and,hD,Bool.false_eq_true,false_and,if_false];split
   ·rfl
   ·exact low _ (Nat.le_refl _)
  ·have hne:(N==i)=false:=by simp;omega
   simp only[gM,addD,hne,Bool.or_false];have hr:=ih (by omega) fun k h1 h2=>hk k h1 (by omega)
   by_cases hd:dstAt aos i=some t
   ·simp only[hd,if_true]at hr ⊢;by_cases hN':dstAt aos N=some t
    ·rw[hk N (by omega) (by omega) hd hN'];simpa using hr
    ·rw[if_neg (fun x=>hN' x.2)];exact hr
   ·simp only[hd,if_false]at hr ⊢;split
    ·rfl
    ·exact hr
theorem rM_add {i:Nat} (hD:D i=false) (x:RId):∀(N:Nat),i<N→(∀k,i<k→k<N→x∈zwc7 outs i→x∈zwc7 outs k→D k=false)→
  rM outs (addD D i) ρ0 N x=updT (rM outs D ρ0 N) (outAt outs i).2 x:=by
 have low:∀n,n≤i→rM outs (addD D i) ρ0 n=rM outs D ρ0 n:=by
  intro n
  induction n with
  |zero=>intro _;rfl
  |succ n ih=>
   intro hn;have hne:(n==i)=false:=by simp;omega
   simp only[rM,ih (by omega),addD,hne,Bool.or_false]
 intro N
 induction N with
 |zero=>intro h;omega
 |succ N ih=>
  intro hN hk;by_cases e:N=i
  ·subst e;simp only[rM,addD,BEq.rfl,Bool.or_true,if_true,hD,Bool.false_eq_true,if_false];have:=low N (Nat.le_refl _);rw[this]
  ·have hne:(N==i)=false:=by simp;omega
   simp only[rM];have hs:addD D i N=D N:=by simp[addD,hne]
   rw[hs];have hr:=ih (by omega) fun k h1 h2=>hk k h1 (by omega)
   by_cases hx:x∈zwc7 outs i
   ·have hup:∀ρ ρ':TLook,updT ρ (outAt outs i).2 x=updT ρ' (outAt outs i).2 x:=fun _ _=>updT_at (.inl hx)
    by_cases hN':x∈zwc7 outs N
    ·rw[hk N (by omega) (by omega) hx hN'];simpa using hr
    ·split
     ·rw[zlf7 (upd:=(outAt outs N).2) hN',hr];exact hup _ _
     ·exact hr
   ·rw[zlf7 (upd:=(outAt outs i).2) hx]at hr ⊢;split
    ·exact updT_at (.inr hr)
    ·exact hr
end
section
variable {K:Orc}
theorem gM_cons (o:AO) (r:List AO) (out:TOut) (outs:List TOut) (g0:Nat→AVal):∀j,gM (o::r) (out::outs) every g0 (j+1)=gM r outs every (fun t=>if o.dst=some t then out.1 else g0 t) j
 |0=>by
  funext t;simp[gM,dstAt,outAt]
 |j+1=>by
  funext t;rw[gM,gM_cons o r out outs g0 j,gM];simp[dstAt,outAt]
theorem rM_cons (out:TOut) (outs:List TOut) (ρ0:TLook):∀j,rM (out::outs) every ρ0 (j+1)=rM outs every (updT ρ0 out.2) j
 |0=>by simp[rM,outAt]
 |j+1=>by
  rw[rM,rM_cons out outs ρ0 j,rM];simp[outAt]
theorem logAt_append_left {l l':Log} {i:Nat} (h:∀p∈l,p.1≠i):logAt (l++l') i=logAt l' i:=by
 induction l with
 |nil=>rfl
 |cons p r ih=>
  obtain⟨j,a⟩:=p;have hj:¬j=i:=h (j,a) (by simp);simp only[List.cons_append,logAt,hj,if_false];exact ih fun p hp=>h p (by simp[hp])
theorem runOps_spec:∀(r:List AO) (i:Nat) (s:St) (lg:Log) (s':St) (lg':Log),zhd7 K i r s lg=some (s',lg')→
  ∃(outs:List TOut) (lgs:Log),outs.length=r.length∧lg'=lg++lgs∧(∀p∈lgs,i≤p.1)∧
   (∀j o,r[j]?=some o→aoE K o (gM r outs every (gE s.env) j) (rM outs every (gT s.objs) j)=some (outAt outs j)∧
    (o.lg=true→logAt lgs (i+j)=⟨zfe7 o.k (gM r outs every (gE s.env) j) (rM outs every (gT s.objs) j),zwc7 outs j,chgOf (rM outs every (gT s.objs) j) (outAt outs j).2⟩))∧
   gE s'.env=gM r outs every (gE s.env) r.length∧gT s'.objs=rM outs every (gT s.objs) r.length
 |[],i,s,lg,s',lg',h=>by
  simp only[zhd7,Option.some.injEq,Prod.mk.injEq]at h;obtain⟨rfl,rfl⟩:=h;exact⟨[],[],rfl,by simp,by simp,by simp,rfl,rfl⟩
 |o::r,i,s,lg,s',lg',h=>by
  simp only[zhd7]at h;split at h
  ·cases h
  ·rename_i out ho;obtain⟨outs,lgs,h1,h2,h3,h4,h5,h6⟩:=runOps_spec r _ _ _ _ _ h
   have eg:gE (putE s.env o.dst out.1)=fun t=>if o.dst=some t then out.1 else gE s.env t:=by
    funext t;exact gE_putE _ _ _ _
   simp only[eg,gT_pTs]at h4 h5 h6;refine⟨out::outs,logOf o i (gE s.env) (gT s.objs) out++lgs,by simp[h1],by rw[h2,List.append_assoc],?_,?_,?_,?_⟩
   ·intro p hp;rcases List.mem_append.1 hp with hp|hp
    ·unfold logOf at hp;split at hp
     ·simp at hp;subst hp;exact Nat.le_refl _
     ·cases hp
    ·have:=h3 p hp;omega
   ·intro j o' hj;cases j with
    |zero=>
     simp at hj;subst hj;refine⟨by simpa[gM,rM,outAt]using ho,fun hl=>?_⟩;simp[logOf,hl,logAt,gM,rM,zwc7,outAt]
    |succ j=>
     simp at hj;obtain⟨a1,a2⟩:=h4 j o' hj;rw[gM_cons,rM_cons];refine⟨by simpa[outAt]using a1,fun hl=>?_⟩;rw[logAt_append_left,show i+(j+1)=i+1+j by omega,a2 hl]
     ·simp[zwc7,outAt]
     ·intro p hp;unfold logOf at hp;split at hp
      ·simp at hp;subst hp;simp
      ·cases hp
   ·rw[h5,List.length_cons,gM_cons]
   ·rw[h6,List.length_cons,rM_cons]
end
theorem updT_filter (p:RId→Bool):∀(upd:List (RId×TObj)) (T:TLook) (x:RId),updT T (upd.filter fun u=>p u.1) x=if p x=true then updT T upd x else T x
 |[],T,x=>by simp[updT]
 |(i,o)::r,T,x=>by
  simp only[List.filter_cons];split
  ·rename_i hp;simp only[updT];rw[updT_filter p r];split
   ·rfl
   ·rename_i hx;have:i≠x:=by rintro rfl;exact hx hp
    simp[this]
  ·rename_i hp;rw[updT_filter p r];simp only[updT];split
   ·rename_i hx;have hne:i≠x:=by rintro rfl;exact hp hx
    exact updT_at (.inr (by simp[hne]))
   ·rfl
theorem slim_upd {T T':TLook} {upd:List (RId×TObj)} (h:∀x∈upd.map (·.1),T' x=T x):updT T' (slim T upd)=updT T' upd:=by
 funext x;unfold slim;rw[updT_filter (fun r=>!sameAt T upd r)];split
 ·rfl
 ·rename_i hx;simp only[Bool.not_eq_true',Bool.not_eq_false]at hx;by_cases hm:x∈upd.map (·.1)
  ·rw[h x hm,←sameAt_eq hx];exact updT_at (.inl hm)
  ·rw[zlf7 hm]
def zqd7 (T:TLook):List TOut→List TOut
 |[]=>[]
 |out::r=>(out.1,slim T out.2)::zqd7 (updT T out.2) r
theorem slimAll_fst:∀(outs:List TOut) (T:TLook) (k:Nat),(outAt (zqd7 T outs) k).1=(outAt outs k).1
 |[],T,k=>by simp[zqd7,outAt]
 |out::r,T,0=>by simp[zqd7,outAt]
 |out::r,T,k+1=>by
  have:=slimAll_fst r (updT T out.2) k;simpa[zqd7,outAt]using this
theorem zaf7:∀(outs:List TOut) (T:TLook) (k:Nat),(outAt (zqd7 T outs) k).2=slim (rM outs every T k) (outAt outs k).2
 |[],T,k=>by simp[zqd7,outAt,slim]
 |out::r,T,0=>by simp[zqd7,outAt,rM]
 |out::r,T,k+1=>by
  have:=zaf7 r (updT T out.2) k;rw[rM_cons];simpa[zqd7,outAt]using this
theorem zqe7 (outs:List TOut) (T:TLook):∀k,rM (zqd7 T outs) every T k=rM outs every T k
 |0=>rfl
 |k+1=>by
  rw[rM,rM,zqe7 outs T k,zaf7];rw[slim_upd (fun _ _=>rfl)]
theorem slimAll_gM (aos:List AO) (outs:List TOut) (T:TLook) (g0:Nat→AVal):∀k,gM aos (zqd7 T outs) every g0 k=gM aos outs every g0 k
 |0=>rfl
 |k+1=>by
  funext t;rw[gM,gM,slimAll_gM aos outs T g0 k,slimAll_fst]
theorem slimAll_keys (outs:List TOut) (T:TLook) (k:Nat):zwc7 (zqd7 T outs) k=chgOf (rM outs every T k) (outAt outs k).2:=by
 unfold zwc7 chgOf;rw[zaf7]
theorem chgOf_sub {T:TLook} {upd:List (RId×TObj)} {x:RId} (hx:x∈chgOf T upd):x∈upd.map (·.1):=by
 obtain⟨u,h1,h2⟩:=List.mem_map.1 hx;exact List.mem_map.2 ⟨u,(List.mem_filter.1 h1).1,h2⟩
theorem meets_sub {a a' b b':List RId} (h:meets a b=false) (ha:∀x∈a',x∈a) (hb:∀x∈b',x∈b):meets a' b'=false:=by
 cases e:meets a' b' with
 |false=>rfl
 |true=>
  simp only[meets,List.any_eq_true]at e;obtain⟨x,h1,h2⟩:=e
  have:meets a b=true:=by
   simp only[meets,List.any_eq_true];exact⟨x,ha x h1,by simpa using hb x (by simpa using h2)⟩
  rw[h]at this;cases this
theorem pairK_apart {a b:LogE} (ha:∀x∈a.chg,x∈a.upd) (hb:∀x∈b.chg,x∈b.upd) (h:pairK a b (apart a b)=true):
  ((meets a.chg b.seen=false∧meets a.chg b.upd=false)∧meets a.seen b.chg=false)∧meets a.upd b.chg=false:=by
 cases e:apart a b with
 |false=>
  rw[e]at h;simpa[pairK,zyc7]using h
 |true=>
  simp only[apart,Bool.and_eq_true,Bool.not_eq_true']at e;obtain⟨⟨h1,h2⟩,h3⟩:=e;exact⟨⟨⟨meets_sub h1 ha fun _ h=>h,meets_sub h2 ha fun _ h=>h⟩,meets_sub h3 (fun _ h=>h) hb⟩,meets_sub h2 (fun _ h=>h) hb⟩
theorem maskOf_bit {acc:List Nat}:∀{l:List Nat} {j:Nat},(maskOf acc l).testBit j=true→∃e∈l,j=e∨(acc.getD e 0).testBit j=true
 |[],j,h=>by simp[maskOf]at h
 |e::r,j,h=>by
  simp only[maskOf,Nat.testBit_or,Bool.or_eq_true]at h;rcases h with (h|h)|h
  ·rw[Nat.testBit_two_pow]at h;exact⟨e,by simp,.inl (of_decide_eq_true h).symm⟩
  ·exact⟨e,by simp,.inr h⟩
  ·obtain⟨e',h1,h2⟩:=maskOf_bit h;exact⟨e',by simp[h1],h2⟩
theorem befs_spec:∀(ops:List Oper) (acc:List Nat),∃l,befs ops acc=acc++l∧l.length=ops.length∧
  ∀j o,ops[j]?=some o→(befs ops acc).getD (acc.length+j) 0=maskOf ((befs ops acc).take (acc.length+j)) (edges o)
 |[],acc=>⟨[],by simp[befs],rfl,by simp⟩
 |o::r,acc=>by
  obtain⟨l,h1,h2,h3⟩:=befs_spec r (acc++[maskOf acc (edges o)]);simp only[befs];refine⟨maskOf acc (edges o)::l,by rw[h1];simp,by simp[h2],fun j o' hj=>?_⟩;cases j with
  |zero=>
   simp at hj;subst hj;rw[h1];simp
  |succ j=>
   simp at hj;have:=h3 j o' hj;rw[show acc.length+(j+1)=(acc++[maskOf acc (edges o)]).length+j by simp;omega];exact this
theorem befs_closed {ops:List Oper} {D:Nat→Bool} (hD:∀i o,ops[i]?=some o→D i=true→∀e∈edges o,D e=true):∀(i:Nat) (o:Oper),ops[i]?=some o→(∀e∈edges o,D e=true)→
  ∀j,((befs ops []).getD i 0).testBit j=true→D j=true:=by
 intro i
 induction i using Nat.strongRecOn with
 |_ i ih=>
  intro o ho he j hj;obtain⟨l,h1,h2,h3⟩:=befs_spec ops [];have h4:=h3 i o ho;simp only[List.length_nil,Nat.zero_add]at h4;rw[h4]at hj;obtain⟨e,he1,he2⟩:=maskOf_bit hj;have hDe:=he e he1;rcases he2 with rfl|he2
  ·exact hDe
  ·by_cases hei:e<i
   ·have hbe:((befs ops []).take i).getD e 0=(befs ops []).getD e 0:=by
     simp[List.getD_eq_getElem?_getD,List.getElem?_take,hei]
    rw[hbe]at he2;have hlt:i<ops.length:=(List.getElem?_eq_some_iff.1 ho).1;have hoe:ops[e]?=some ops[e]:=by simp
    exact ih e hei ops[e] hoe (hD e _ hoe hDe) j he2
   ·have:((befs ops []).take i).getD e 0=0:=by
     simp only[List.getD_eq_getElem?_getD,List.getElem?_take,hei,if_false];rfl
    rw[this]at he2;simp at he2
theorem clashes_spec {aos:List AO} {bs:List Nat}:∀{n:Nat},clashes aos bs n=false→∀i j,i<j→j<n→((bs.getD j 0).testBit i=true)∨∀a b,aos[i]?=some a→aos[j]?=some b→zze7 a b=false
 |0,_,i,j,_,h=>by omega
 |n+1,h,i,j,hij,hj=>by
  simp only[clashes,Bool.or_eq_false_iff]at h;by_cases e:j=n
  ·subst e;have:=h.2;rw[List.any_eq_false]at this;have h':=this i (by simpa using hij);cases hb:(bs.getD j 0).testBit i with
   |true=>exact .inl rfl
   |false=>
    right;intro a b ha hb';simp only[hb,ha,hb',Bool.not_false,Bool.true_and,Bool.not_eq_true]at h';exact h'
  ·exact clashes_spec h.1 i j hij (by omega)
theorem pairsOf_spec {ops:List Oper} {ks:List AK} {bs:List Nat}:∀{n:Nat} (i j:Nat),i<j→j<n→((bs.getD j 0).testBit i=true)∨(i,j)∈pairsOf ops ks bs n∨
  ∀a b,ks[i]?=some a→ks[j]?=some b→(a.kind=2→b.kind=0)∧(b.kind=2→a.kind=0)
 |0,i,j,_,h=>by omega
 |n+1,i,j,hij,hj=>by
  by_cases e:j=n
  ·subst e;cases hb:(bs.getD j 0).testBit i with
   |true=>exact .inl rfl
   |false=>
    right;cases ha:ks[i]? with
    |none=>exact .inr fun a b h _=>by cases h
    |some a=>
     cases hc:ks[j]? with
     |none=>exact .inr fun a b _ h=>by cases h
     |some b=>
      by_cases hq:((a.kind==2&&b.kind !=0)||(b.kind==2&&a.kind !=0))=true
      ·left;simp only[pairsOf,List.mem_append];right;rw[List.mem_filterMap];refine⟨i,by simpa using hij,?_⟩;simp only[hb,ha,hc,Bool.false_eq_true,if_false,hq,if_true]
      ·right;intro a' b' h1 h2;cases h1;cases h2;simp at hq;exact⟨fun h=>hq.1 h,fun h=>hq.2 h⟩
  ·rcases pairsOf_spec (ops:=ops) (ks:=ks) (bs:=bs) (n:=n) i j hij (by omega) with h|h|h
   ·exact .inl h
   ·exact .inr (.inl (by simp only[pairsOf,List.mem_append];exact .inl h))
   ·exact .inr (.inr h)
end Go.Am

namespace Go.Am
variable [Glob]
structure GoodF (B:Base) (C0 C:Ctx) (n:Nat) (g:Nat→AVal) (T:TLook) (a:Act):Prop where
 ρ:C.ρ=flat T
 inv:Inv B C
 env:RepE C g a
 size:a.tmps.size=n
 ext:Ext (fun i=>i) (fun id=>id.1.1=0) C0 C
 defers:a.defers=marks B.ds
 ds:B.dsOK C0
 le:C0.w.heap.size≤B.w.heap.size∧B.ds.Nodup
theorem Good.f {B:Base} {C0 C:Ctx} {n:Nat} {s:St} {a:Act} (h:Good B C0 C n s a):GoodF B C0 C n (gE s.env) (gT s.objs) a:=⟨h.ρ,h.inv,h.env,h.size,h.ext,h.defers,h.ds,h.le⟩
theorem GoodF.good {B:Base} {C0 C:Ctx} {n:Nat} {s:St} {a:Act} (h:GoodF B C0 C n (gE s.env) (gT s.objs) a):Good B C0 C n s a:=⟨h.ρ,h.inv,h.env,h.size,h.ext,h.defers,h.ds,h.le⟩
theorem cOpers_get {P:Program} {n:Nat} {ms:List (Nat×Mk)} {ops:List Oper}:∀{r:List Oper} {i:Nat} {l:List (AK×Option (Nat×Bool))},cOpers P n ms ops i r=some l→
  l.length=r.length∧∀j o,r[j]?=some o→∃k g,l[j]?=some (k,g)∧cOper P n ms ops (i+j) o=some (k,g)
 |[],i,l,h=>by
  simp only[cOpers,Option.some.injEq]at h;subst h;simp
 |o::r,i,l,h=>by
  simp only[cOpers]at h;split at h
  ·rename_i x l' h1 h2;simp only[Option.some.injEq]at h;subst h;obtain⟨e1,e2⟩:=cOpers_get h2;refine⟨by simp[e1],fun j o' hj=>?_⟩;cases j with
   |zero=>
    simp at hj;subst hj;exact⟨x.1,x.2,rfl,h1⟩
   |succ j=>
    simp at hj;obtain⟨k,g,e3,e4⟩:=e2 j o' hj;exact⟨k,g,by simpa using e3,by rw[show i+(j+1)=i+1+j by omega];exact e4⟩
  ·cases h
theorem aosOf_get {ps:List (Nat×Nat)}:∀{r:List Oper} {l:List (AK×Option (Nat×Bool))} {i:Nat},l.length=r.length→
  (aosOf ps i r l).length=r.length∧∀(j:Nat) (o:Oper) (k:AK) (g:Option (Nat×Bool)),r[j]?=some o→l[j]?=some (k,g)→(aosOf ps i r l)[j]?=some (⟨o.dst,k,g,ps.any fun p=>p.1==i+j||p.2==i+j⟩:AO)
 |[],l,i,h=>by cases l<;>simp[aosOf]
 |o::r,[],i,h=>by simp at h
 |o::r,(k,g)::l,i,h=>by
  obtain⟨e1,e2⟩:=aosOf_get (ps:=ps) (r:=r) (l:=l) (i:=i+1) (by simpa using h);refine⟨by simp[aosOf,e1],fun j o' k' g' h1 h2=>?_⟩;cases j with
  |zero=>
   simp at h1 h2;obtain⟨rfl,rfl⟩:=h2;subst h1;simp[aosOf]
  |succ j=>
   simp at h1 h2;have:=e2 j o' k' g' h1 h2;simp only[aosOf,List.getElem?_cons_succ];rw[this,show i+1+j=i+(j+1) by omega]
section
variable {P:Program} {B:Base} {C0:Ctx} {K:Orc} {n:Nat} {rd:Option Nat}
theorem wpOp_good (hS:zyd7 P K) {ops:Array Oper} {Q:Exit→Act→World→Prop} {i:Nat} {o:Oper} (hi:ops[i]?=some o) {ms:List (Nat×Mk)} {k:AK} {gd:Option (Nat×Bool)} (hc:cOper P n ms ops.toList i o=some (k,gd)) {lg:Bool}
  {C:Ctx} {g:Nat→AVal} {ρ:TLook} {a:Act} (h:GoodF B C0 C n g ρ a) {out:TOut} (ho:aoE K ⟨o.dst,k,gd,lg⟩ g ρ=some out) {next:Act→World→Prop}
  (hnext:∀a' C',GoodF B C0 C' n (fun t=>if o.dst=some t then out.1 else g t) (updT ρ out.2) a'→next a' C'.w):
  wpOpIn (fR rd) 0 P ops Q i next a C.w:=by
 refine wpOp_sound hS hi hc h.inv h.ρ h.env h.size ho fun val C' e1 e2 e3 e4 e5=>?_
 refine hnext _ C' ⟨e1,e2,e4,e5,h.ext.thenGrow e3,?_,h.ds,h.le⟩;have:=h.defers;cases o.dst<;>simpa[Act.put]using this
theorem seq_sound (hS:zyd7 P K) {ops:Array Oper} {Q:Exit→Act→World→Prop} {ms:List (Nat×Mk)} {l:List (AK×Option (Nat×Bool))} (hl:cOpers P n ms ops.toList 0 ops.toList=some l) {ps:List (Nat×Nat)}:
  ∀(m i:Nat) (s:St) (lg:Log) (s':St) (lg':Log) (C:Ctx) (a:Act),i+m=ops.size→zhd7 K i ((aosOf ps 0 ops.toList l).drop i) s lg=some (s',lg')→GoodF B C0 C n (gE s.env) (gT s.objs) a→
   (∀a' C',GoodF B C0 C' n (gE s'.env) (gT s'.objs) a'→Q .normal a' C'.w)→wpOpsIn (fR rd) 0 P ops Q (List.range' i m) a C.w:=by
 obtain⟨hlen,hget⟩:=cOpers_get hl;obtain⟨alen,aget⟩:=aosOf_get (ps:=ps) (i:=0) hlen;intro m
 induction m with
 |zero=>
  intro i s lg s' lg' C a hi h hG hQ;rw[List.drop_of_length_le (by rw[alen];simp;omega)]at h;simp only[zhd7,Option.some.injEq,Prod.mk.injEq]at h;obtain⟨rfl,rfl⟩:=h;simp only[List.range'_zero,wpOpsIn];exact hQ a C hG
 |succ m ih=>
  intro i s lg s' lg' C a hi h hG hQ;have hlt:i<ops.size:=by omega
  have ho:ops[i]?=some ops[i]:=by simp[hlt]
  have ho':ops.toList[i]?=some ops[i]:=by simp[hlt]
  obtain⟨k,g,e1,e2⟩:=hget i _ ho';rw[Nat.zero_add]at e2;have ea:=aget i _ k g ho' e1
  have hd:(aosOf ps 0 ops.toList l).drop i=⟨ops[i].dst,k,g,ps.any fun p=>p.1==0+i||p.2==0+i⟩::(aosOf ps 0 ops.toList l).drop (i+1):=by
   have hl2:i<(aosOf ps 0 ops.toList l).length:=by rw[alen];simpa using hlt
   rw[List.drop_eq_getElem_cons hl2]
   congr 1
   rw[List.getElem?_eq_getElem hl2]at ea;exact Option.some.inj ea
  rw[hd]at h;simp only[zhd7]at h;split at h
  ·cases h
  ·rename_i out hout;rw[List.range'_succ,wpOpsIn_cons];refine wpOp_good hS ho e2 hG hout fun a' C' hG'=>?_
   refine ih (i+1) _ _ _ _ C' a' (by omega) h ?_ hQ
   have eg:gE (putE s.env ops[i].dst out.1)=fun t=>if ops[i].dst=some t then out.1 else gE s.env t:=by
    funext t;exact gE_putE _ _ _ _
   simp only[eg,gT_pTs];exact hG'
theorem countP_lt_of {α:Type} {p q:α→Bool} (h:∀x,q x=true→p x=true):∀{l:List α} {x:α},x∈l→p x=true→q x=false→l.countP q<l.countP p
 |y::r,x,hx,hp,hq=>by
  have hle:r.countP q≤r.countP p:=by
   clear hx
   induction r with
   |nil=>simp
   |cons z r ih=>
    simp only[List.countP_cons];have:=h z;cases hz:q z<;>cases hz':p z<;>simp_all<;>omega
  simp only[List.countP_cons];cases hx with
  |head=>simp[hp,hq];omega
  |tail _ hx=>
   have:=countP_lt_of h hx hp hq;have:=h y;cases hz:q y<;>cases hz':p y<;>simp_all<;>omega
theorem meets_mem {a b:List RId} {x:RId} (ha:x∈a) (hb:x∈b):meets a b=true:=by
 simp only[meets,List.any_eq_true];exact⟨x,ha,by simpa using hb⟩
theorem aoE_quiet {o:AO} {g:Nat→AVal} {ρ:TLook} {out:TOut} (h:aoE K o g ρ=some out) (hk:o.k.kind≠2):out.2=[]:=by
 unfold aoE at h;split at h
 ·exact opT_quiet K _ h hk
 ·split at h
  ·split at h
   ·exact opT_quiet K _ h hk
   ·cases h;rfl
  ·cases h;rfl
  ·cases h
theorem aoE_frame {o:AO} {g g':Nat→AVal} {ρ ρ':TLook} {out:TOut} (h:aoE K o g ρ=some out) (hs:∀t∈o.seen,g' t=g t) (hρ:o.k.kind≠0→∀i,i∈zfe7 o.k g ρ∨i∈out.2.map (·.1)→ρ' i=ρ i):aoE K o g' ρ'=some out:=by
 have hop:opT K (o.dst.getD 0) o.k g ρ=some out→opT K (o.dst.getD 0) o.k g' ρ'=some out:=by
  intro h;rw[opT_slots K _ ρ' (fun t ht=>hs t (List.mem_append.2 (.inl ht)))];by_cases hk:o.k.kind=0
  ·rw[opT_blind K _ hk];exact h
  ·exact opT_objs K _ h (hρ hk)
 unfold aoE at h ⊢;cases hg:o.guard with
 |none=>rw[hg]at h;exact hop h
 |some tw=>
  obtain⟨t,want⟩:=tw;rw[hg]at h;simp only at h ⊢;rw[hs t (by simp[AO.seen,hg])];split at h
  ·rename_i b hb;split at h
   ·rename_i hbw;rw[if_pos hbw];exact hop h
   ·rename_i hbw;rw[if_neg hbw];exact h
  ·exact h
  ·cases h
theorem edgesOk_spec:∀{r:List Oper} {i:Nat},edgesOk i r=true→∀j o,r[j]?=some o→∀e∈edges o,e<i+j
 |[],i,h,j,o,ho=>by simp at ho
 |o::r,i,h,j,o',ho=>by
  simp only[edgesOk,Bool.and_eq_true,List.all_eq_true,decide_eq_true_eq]at h;cases j with
  |zero=>
   simp at ho;subst ho;simpa using h.1
  |succ j=>
   simp at ho;have:=edgesOk_spec h.2 j o' ho;intro e he;have:=this e he;omega
structure Drawn (K:Orc) (P:Program) (n:Nat) (ms:List (Nat×Mk)) (ops:Array Oper) (aos:List AO) (outs fulls:List TOut) (g0:Nat→AVal) (ρ0:TLook):Prop where
 len:aos.length=ops.size
 ao:∀i o,ops[i]?=some o→∃k gd lg,aos[i]?=some ⟨o.dst,k,gd,lg⟩∧cOper P n ms ops.toList i o=some (k,gd)
 run:∀j o,aos[j]?=some o→aoE K o (gM aos outs every g0 j) (rM outs every ρ0 j)=some (outAt fulls j)
 val:∀j,(outAt outs j).1=(outAt fulls j).1
 upd:∀j T',(∀x∈zwc7 fulls j,T' x=rM outs every ρ0 j x)→updT T' (outAt outs j).2=updT T' (outAt fulls j).2
 sub:∀j x,x∈zwc7 outs j→x∈zwc7 fulls j
 edge:∀i o,ops[i]?=some o→∀e∈edges o,e<i
 slot:∀i j,i<j→j<ops.size→((befs ops.toList []).getD j 0).testBit i=true∨∀a b,aos[i]?=some a→aos[j]?=some b→zze7 a b=false
 objs:∀i j,i<j→j<ops.size→((befs ops.toList []).getD j 0).testBit i=true∨∀a b,aos[i]?=some a→aos[j]?=some b→
  ((a.k.kind=2→b.k.kind=0)∧(b.k.kind=2→a.k.kind=0))∨
  (∀x,(x∈zfe7 a.k (gM aos outs every g0 i) (rM outs every ρ0 i)∨x∈zwc7 fulls i)→x∈zwc7 outs j→False)∧
  (∀x,(x∈zfe7 b.k (gM aos outs every g0 j) (rM outs every ρ0 j)∨x∈zwc7 fulls j)→x∈zwc7 outs i→False)
section
variable {ms:List (Nat×Mk)} {ops:Array Oper} {aos:List AO} {outs fulls:List TOut} {g0:Nat→AVal} {ρ0:TLook} {D:Nat→Bool}
theorem Drawn.dst (H:Drawn K P n ms ops aos outs fulls g0 ρ0) {i:Nat} {o:Oper} (ho:ops[i]?=some o):dstAt aos i=o.dst:=by
 obtain⟨k,gd,lg,h,_⟩:=H.ao i o ho;simp[dstAt,h]
theorem Drawn.before (H:Drawn K P n ms ops aos outs fulls g0 ρ0) (hD:∀i o,ops[i]?=some o→D i=true→∀e∈edges o,D e=true) {i:Nat} {o:Oper} (ho:ops[i]?=some o) (he:∀e∈edges o,D e=true) {j:Nat}
  (hj:((befs ops.toList []).getD i 0).testBit j=true):D j=true:=
 befs_closed (ops:=ops.toList) (D:=D) (fun i o h=>hD i o (by simpa using h)) i o (by simpa using ho) he j hj
theorem Drawn.sees (H:Drawn K P n ms ops aos outs fulls g0 ρ0) (hD:∀i o,ops[i]?=some o→D i=true→∀e∈edges o,D e=true) {i:Nat} {o:Oper} (ho:ops[i]?=some o) (he:∀e∈edges o,D e=true) (hi:D i=false)
  {a:AO} (ha:aos[i]?=some a) {t:Nat} (ht:t∈a.seen):gM aos outs D g0 ops.size t=gM aos outs every g0 i t:=by
 have hlt:i<ops.size:=(Array.getElem?_eq_some_iff.1 ho).1;refine gM_agree (fun k hk hd=>?_) ops.size (Nat.le_of_lt hlt) fun k hk hk' hd=>?_
 ·rcases H.slot k i hk hlt with h|h
  ·exact H.before hD ho he h
  ·obtain⟨b,hb⟩:∃b,aos[k]?=some b:=⟨aos[k]'(by rw[H.len];omega),by simp⟩;have:=h b a hb ha;simp only[dstAt,hb,Option.bind_some]at hd;simp[zze7,hd]at this;exact absurd ht this.1.1
 ·by_cases e:k=i
  ·subst e;exact hi
  ·rcases H.slot i k (by omega) hk' with h|h
   ·cases hDk:D k with
    |false=>rfl
    |true=>
     have hok:ops[k]?=some ops[k]:=by simp[hk']
     have:=H.before hD hok (hD k _ hok hDk) h;rw[hi]at this;cases this
   ·obtain⟨b,hb⟩:∃b,aos[k]?=some b:=⟨aos[k]'(by rw[H.len];omega),by simp⟩;have:=h a b ha hb;simp only[dstAt,hb,Option.bind_some]at hd;simp[zze7,hd]at this;exact absurd ht this.2
theorem Drawn.quiet (H:Drawn K P n ms ops aos outs fulls g0 ρ0) {k:Nat} {b:AO} (hb:aos[k]?=some b) (hk:b.k.kind≠2):zwc7 outs k=[]:=by
 have h:=aoE_quiet (H.run k b hb) hk;rw[List.eq_nil_iff_forall_not_mem];intro x hx;have:=H.sub k x hx;simp[zwc7,h]at this
theorem Drawn.meets (H:Drawn K P n ms ops aos outs fulls g0 ρ0) (hD:∀i o,ops[i]?=some o→D i=true→∀e∈edges o,D e=true) {i:Nat} {o:Oper} (ho:ops[i]?=some o) (he:∀e∈edges o,D e=true) (hi:D i=false)
  {a:AO} (ha:aos[i]?=some a) {x:RId} (hk0:a.k.kind≠0) (hx:x∈zfe7 a.k (gM aos outs every g0 i) (rM outs every ρ0 i)∨x∈zwc7 fulls i):
  (∀k,k<i→x∈zwc7 outs k→D k=true)∧(∀k,i≤k→k<ops.size→x∈zwc7 outs k→D k=false):=by
 have hlt:i<ops.size:=(Array.getElem?_eq_some_iff.1 ho).1;refine⟨fun k hk hd=>?_,fun k hk hk' hd=>?_⟩
 ·rcases H.objs k i hk hlt with h|h
  ·exact H.before hD ho he h
  ·obtain⟨b,hb⟩:∃b,aos[k]?=some b:=⟨aos[k]'(by rw[H.len];omega),by simp⟩;rcases h b a hb ha with h|h
   ·by_cases hb2:b.k.kind=2
    ·exact absurd (h.1 hb2) hk0
    ·rw[H.quiet hb hb2]at hd;cases hd
   ·exact (h.2 x hx hd).elim
 ·by_cases e:k=i
  ·subst e;exact hi
  ·rcases H.objs i k (by omega) hk' with h|h
   ·cases hDk:D k with
    |false=>rfl
    |true=>
     have hok:ops[k]?=some ops[k]:=by simp[hk']
     have:=H.before hD hok (hD k _ hok hDk) h;rw[hi]at this;cases this
   ·obtain⟨b,hb⟩:∃b,aos[k]?=some b:=⟨aos[k]'(by rw[H.len];omega),by simp⟩;rcases h a b ha hb with h|h
    ·by_cases hb2:b.k.kind=2
     ·exact absurd (h.2 hb2) hk0
     ·rw[H.quiet hb hb2]at hd;cases hd
    ·exact (h.1 x hx hd).elim
theorem Drawn.answers (H:Drawn K P n ms ops aos outs fulls g0 ρ0) (hD:∀i o,ops[i]?=some o→D i=true→∀e∈edges o,D e=true) {i:Nat} {o:Oper} (ho:ops[i]?=some o) (he:∀e∈edges o,D e=true) (hi:D i=false)
  {a:AO} (ha:aos[i]?=some a):aoE K a (gM aos outs D g0 ops.size) (rM outs D ρ0 ops.size)=some (outAt fulls i):=by
 have hlt:i<ops.size:=(Array.getElem?_eq_some_iff.1 ho).1;refine aoE_frame (H.run i a ha) (fun t ht=>H.sees hD ho he hi ha ht) fun hk x hx=>?_
 obtain⟨h1,h2⟩:=H.meets hD ho he hi ha hk hx;exact rM_agree h1 ops.size (Nat.le_of_lt hlt) h2
theorem Drawn.same (H:Drawn K P n ms ops aos outs fulls g0 ρ0) (hD:∀i o,ops[i]?=some o→D i=true→∀e∈edges o,D e=true) {i:Nat} {o:Oper} (ho:ops[i]?=some o) (he:∀e∈edges o,D e=true) (hi:D i=false)
  {a:AO} (ha:aos[i]?=some a):updT (rM outs D ρ0 ops.size) (outAt outs i).2=updT (rM outs D ρ0 ops.size) (outAt fulls i).2:=by
 have hlt:i<ops.size:=(Array.getElem?_eq_some_iff.1 ho).1;refine H.upd i _ fun x hx=>?_
 by_cases hk:a.k.kind=0
 ·have h:=aoE_quiet (H.run i a ha) (by omega);simp[zwc7,h]at hx
 ·obtain⟨h1,h2⟩:=H.meets hD ho he hi ha hk (.inr hx);exact rM_agree h1 ops.size (Nat.le_of_lt hlt) h2
theorem Drawn.adds (H:Drawn K P n ms ops aos outs fulls g0 ρ0) (hD:∀i o,ops[i]?=some o→D i=true→∀e∈edges o,D e=true) {i:Nat} {o:Oper} (ho:ops[i]?=some o) (he:∀e∈edges o,D e=true) (hi:D i=false):
  gM aos outs (addD D i) g0 ops.size=(fun t=>if o.dst=some t then (outAt outs i).1 else gM aos outs D g0 ops.size t)∧rM outs (addD D i) ρ0 ops.size=updT (rM outs D ρ0 ops.size) (outAt outs i).2:=by
 have hlt:i<ops.size:=(Array.getElem?_eq_some_iff.1 ho).1;obtain⟨k0,gd,lg,ha,hc⟩:=H.ao i o ho;refine⟨?_,?_⟩
 ·funext t;rw[gM_add hi t ops.size hlt,H.dst ho];intro k hk hk' hdi hdk;rcases H.slot i k hk hk' with h|h
  ·cases hDk:D k with
   |false=>rfl
   |true=>
    have hok:ops[k]?=some ops[k]:=by simp[hk']
    have:=H.before hD hok (hD k _ hok hDk) h;rw[hi]at this;cases this
  ·obtain⟨b,hb⟩:∃b,aos[k]?=some b:=⟨aos[k]'(by rw[H.len];omega),by simp⟩;have:=h _ b ha hb;rw[H.dst ho]at hdi;simp only[dstAt,hb,Option.bind_some]at hdk;simp[zze7,hdi,hdk]at this
 ·funext x;refine rM_add hi x ops.size hlt fun k hk hk' hxi hxk=>?_
  have hk0:k0.kind≠0:=by
   intro h0;have:=H.quiet ha (by simp[h0]);rw[this]at hxi;cases hxi
  exact (H.meets hD ho he hi ha hk0 (.inr (H.sub i x hxi))).2 k (Nat.le_of_lt hk) hk' hxk
theorem mem_edges {o:Oper} {e:Nat}:e∈edges o↔∃x∈o.after,Region.binds .any x=true∧x.on=e:=by
 unfold edges;simp only[List.mem_filterMap,Array.mem_toList_iff];constructor
 ·rintro⟨x,h1,h2⟩;split at h2
  ·rename_i hb;exact⟨x,h1,hb,by simpa using h2⟩
  ·cases h2
 ·rintro⟨x,h1,h2,h3⟩;exact⟨x,h1,by rw[if_pos h2,h3]⟩
theorem any_sound (hS:zyd7 P K) (H:Drawn K P n ms ops aos outs fulls g0 ρ0) {Q:Exit→Act→World→Prop} (hQ:∀a' C',GoodF B C0 C' n (gM aos outs every g0 ops.size) (rM outs every ρ0 ops.size) a'→Q .normal a' C'.w):
  ∀(fuel:Nat) (listed:Array Bool) (a:Act) (C:Ctx),listed.size=ops.size→
   (∀i o,ops[i]?=some o→listed.getD i false=true→∀e∈edges o,listed.getD e false=true)→
   GoodF B C0 C n (gM aos outs (fun i=>listed.getD i false) g0 ops.size) (rM outs (fun i=>listed.getD i false) ρ0 ops.size) a→
   (List.range ops.size).countP (fun i=>!listed.getD i false)≤fuel→wpAnyIn (fR rd) 0 P .any ops Q fuel listed a C.w:=by
 intro fuel
 have tf:∀(listed:Array Bool) (i:Nat),listed.size=ops.size→i<ops.size→listed.getD i true=listed.getD i false:=by
  intro listed i hs hi;have:i<listed.size:=by omega
  simp[Array.getD,this]
 have done:∀(listed:Array Bool) (a:Act) (C:Ctx),listed.size=ops.size→Region.ready .any ops listed=[]→
   GoodF B C0 C n (gM aos outs (fun i=>listed.getD i false) g0 ops.size) (rM outs (fun i=>listed.getD i false) ρ0 ops.size) a→Q .normal a C.w:=by
  intro listed a C hs hr hG
  have all:∀i,i<ops.size→listed.getD i false=true:=by
   intro i
   induction i using Nat.strongRecOn with
   |_ i ih=>
    intro hi;cases hf:listed.getD i false with
    |true=>rfl
    |false=>
     have:i∈Region.ready .any ops listed:=by
      rw[mem_ready];have hok:ops[i]?=some ops[i]:=by simp[hi]
      refine⟨by rw[tf listed i hs hi,hf],ops[i],hok,fun e he hb=>?_⟩;have:=H.edge i _ hok e.on (mem_edges.2 ⟨e,he,hb,rfl⟩);exact ih e.on this (by omega)
     rw[hr]at this;cases this
  have e1:gM aos outs (fun i=>listed.getD i false) g0 ops.size=gM aos outs every g0 ops.size:=by
   funext t;exact gM_agree (fun k hk _=>all k hk) ops.size (Nat.le_refl _) (fun k h1 h2 _=>by omega)
  have e2:rM outs (fun i=>listed.getD i false) ρ0 ops.size=rM outs every ρ0 ops.size:=by
   funext t;exact rM_agree (fun k hk _=>all k hk) ops.size (Nat.le_refl _) (fun k h1 h2 _=>by omega)
  rw[e1,e2]at hG;exact hQ a C hG
 induction fuel with
 |zero=>
  intro listed a C hs hD hG hc
  have hr:Region.ready .any ops listed=[]:=by
   rw[List.eq_nil_iff_forall_not_mem];intro j hj;obtain⟨h0,o,ho,_⟩:=mem_ready.1 hj;have hlt:j<ops.size:=(Array.getElem?_eq_some_iff.1 ho).1;rw[tf listed j hs hlt]at h0
   have:0<(List.range ops.size).countP (fun i=>!listed.getD i false):=by
    rw[List.countP_pos_iff];exact⟨j,by simpa using hlt,by simp only[h0,Bool.not_false]⟩
   omega
  exact⟨hr,done listed a C hs hr hG⟩
 |succ fuel ih=>
  intro listed a C hs hD hG hc;refine⟨fun hr=>done listed a C hs hr hG,fun i hi=>?_⟩;obtain⟨h0,o,ho,hall⟩:=mem_ready.1 hi;have hlt:i<ops.size:=(Array.getElem?_eq_some_iff.1 ho).1;rw[tf listed i hs hlt]at h0
  have he:∀e∈edges o,listed.getD e false=true:=by
   intro e hee;obtain⟨x,h1,h2,rfl⟩:=mem_edges.1 hee;exact hall x h1 h2
  obtain⟨k,gd,lg,ha,hco⟩:=H.ao i o ho;have hans:=H.answers (D:=fun i=>listed.getD i false) hD ho he h0 ha;obtain⟨ag,ar⟩:=H.adds (D:=fun i=>listed.getD i false) hD ho he h0;refine wpOp_good hS ho hco hG hans fun a' C' hG'=>?_
  rw[←H.val i,←H.same (D:=fun i=>listed.getD i false) hD ho he h0 ha,←ag,←ar]at hG'
  have hset:addD (fun i=>listed.getD i false) i=fun j=>(listed.setIfInBounds i true).getD j false:=by
   funext j;by_cases e:j=i
   ·subst e;have:j<listed.size:=by omega
    simp[addD,this]
   ·have:=getD_set_ne (listed:=listed) (i:=i) (j:=j) false (fun x=>e x.symm);rw[this];simp[addD,e]
  rw[hset]at hG';refine ih (listed.setIfInBounds i true) a' C' (by simpa using hs) ?_ hG' ?_
  ·intro j o' ho' hj e hee;refine getD_set_true ?_;by_cases hji:j=i
   ·subst hji;rw[ho]at ho';cases ho';exact he e hee
   ·rw[getD_set_ne false (fun x=>hji x.symm)]at hj;exact hD j o' ho' hj e hee
  ·have:=countP_lt_of (p:=fun j=>!listed.getD j false) (q:=fun j=>!(listed.setIfInBounds i true).getD j false) (l:=List.range ops.size) (x:=i)
    (fun j hj=>by
     cases hl:listed.getD j false with
     |false=>rfl
     |true=>
      have:=getD_set_true (i:=i) hl;simp only[this]at hj;cases hj) (by simpa using hlt) (by simp only[h0,Bool.not_false]) (by
     have:i<listed.size:=by omega
     simp[this])
   omega
end
end
end Go.Am

namespace Go.Am
variable [Glob]
theorem gE_restrict (live:List Nat) (env:Env) (t:Nat):gE (restrict live env) t=if t∈live then gE env t else .undef:=by
 induction live with
 |nil=>simp[restrict,gE]
 |cons x r ih=>
  simp only[restrict,List.map_cons,gE]at ih ⊢;by_cases e:x=t
  ·subst e;simp
  ·have e':¬t=x:=fun h=>e h.symm
   simp only[e,if_false,List.mem_cons,e',false_or];exact ih
theorem gT_zip:∀{ids:List RId} {os:List TObj},ids.length=os.length→∀(i:RId),gT (ids.zip os) i=if i∈ids then os[zzb7 ids i]? else none
 |[],os,h,i=>by simp[gT]
 |j::r,[],h,i=>by simp at h
 |j::r,o::os,h,i=>by
  simp only[List.zip_cons_cons,gT,zzb7];by_cases e:j=i
  ·subst e;simp
  ·have e':¬i=j:=fun x=>e x.symm
   rw[if_neg e,gT_zip (by simpa using h) i];simp only[List.mem_cons,e',false_or,e,if_false,List.getElem?_cons_succ]
theorem gE_map (f:AVal→AVal) (hf:f .undef=.undef):∀(env:Env) (t:Nat),gE (env.map fun p=>(p.1,f p.2)) t=f (gE env t)
 |[],t=>hf.symm
 |(x,v)::r,t=>by
  simp only[List.map_cons,gE];split
  ·rfl
  ·exact gE_map f hf r t
theorem gE_mem:∀{env:Env} {t:Nat},gE env t=.undef∨∃p∈env,p.2=gE env t
 |[],t=>.inl rfl
 |(x,v)::r,t=>by
  simp only[gE];split
  ·exact .inr ⟨(x,v),by simp,rfl⟩
  ·rcases gE_mem (env:=r) (t:=t) with h|⟨p,h1,h2⟩
   ·exact .inl h
   ·exact .inr ⟨p,by simp[h1],h2⟩
theorem gT_mem:∀{s:zsa7} {i:RId} {o:TObj},gT s i=some o→(i,o)∈s
 |[],i,o,h=>by simp[gT]at h
 |(j,o')::r,i,o,h=>by
  simp only[gT]at h;split at h
  ·rename_i e;cases h;subst e;simp
  ·simp[gT_mem h]
section
variable {P:Program} {B:Base} {C0:Ctx} {K:Orc} {n:Nat} {rd:Option Nat}
theorem Good.restrict {C:Ctx} {s:St} {a:Act} (h:Good B C0 C n s a) (live:List Nat):Good B C0 C n ⟨Am.restrict live s.env,s.objs⟩ a:=by
 refine⟨h.ρ,h.inv,⟨fun t=>?_,h.env.glob⟩,h.size,h.ext,h.defers,h.ds,h.le⟩;simp only[gE_restrict];split
 ·exact h.env.env t
 ·simp[RepA]
theorem Good.drop {C:Ctx} {s s':St} {a:Act} (h:Good B C0 C n s a) {drop:List Nat} (hd:dropE drop s=some s'):∃C',C'.w=C.w∧Good B C0 C' n s' a:=by
 unfold dropE at hd;split at hd
 ·simp only[Option.some.injEq]at hd;subst hd;exact⟨C,rfl,h⟩
 ·split at hd
  ·cases hd
  ·rename_i nm hnm;split at hd
   ·cases hd
   ·rename_i order hcol;split at hd
    ·cases hd
    ·rename_i os hos;split at hd
     ·rename_i hchk;obtain⟨hnd,hfix⟩:=hchk;simp only[Option.some.injEq]at hd;subst hd;generalize lookN nm=f at hnd hfix;obtain⟨r1,r2,r3,r4,_⟩:=ztd7 (gT s.objs) 64 _ [] order hcol (by simp) (by simp);obtain⟨g1,g2⟩:=zef7 hos;have hlen:(order.map f).length=(os.map (TObj.tren f)).length:=by simp[g1]
      have hgo:=gT_zip hlen
      have hidx:∀{n:Nat} {i:RId},order[n]?=some i→zzb7 (order.map f) (f i)=n:=by
       intro n i hi;exact zbe7 hnd (by simp[hi])
      let C':Ctx:={ C with μ:=fun j=>C.μ ((order[zzb7 (order.map f) j.1]?).getD (0,0),j.2),ρ:=flat (gT ((order.map f).zip (os.map (TObj.tren f)))) }
      have look1:∀r,r∈order→∃o,gT s.objs r=some o∧gT ((order.map f).zip (os.map (TObj.tren f))) (f r)=some (o.tren f):=by
       intro r hr;obtain⟨n,hn⟩:=List.getElem?_of_mem hr;obtain⟨o,ho,_⟩:=r4 r hr;refine⟨o,ho,?_⟩;simp only[hgo,List.mem_map_of_mem hr,if_true,hidx hn,List.getElem?_map,g2 n r hn,ho,Option.map_some]
      have fwd:∀i:Id,i.1∈order→C'.ρ (liftF f i)=(C.ρ i).map (Obj.ren (liftF f))∧C'.μ (liftF f i)=C.μ i:=by
       intro i hi;obtain⟨n,hn⟩:=List.getElem?_of_mem hi;obtain⟨o,ho,ho'⟩:=look1 i.1 hi;refine⟨?_,?_⟩
       ·simp only[C',flat,liftF,ho',h.ρ,ho];exact flatR_ren _ _ _ _ _
       ·simp only[C',liftF,hidx hn,hn,Option.getD_some]
      have back:∀j o,C'.ρ j=some o→∃(i:Id) (o1:Obj),i.1∈order∧liftF f i=j∧C.ρ i=some o1∧o=o1.ren (liftF f)∧C'.μ j=C.μ i:=by
       intro j o ho;have ho':=ho;simp only[C',flat,hgo]at ho;split at ho
       ·rename_i o' he;split at he
        ·rename_i hj;obtain⟨r,hr,hrj⟩:=List.mem_map.1 hj;have hji:liftF f (r,j.2)=j:=by rw[liftF,hrj]
         obtain⟨q1,q2⟩:=fwd (r,j.2) hr;rw[hji]at q1 q2;rw[ho']at q1;obtain⟨o1,h1,h2⟩:=zda7 q1.symm;exact⟨_,o1,hr,hji,h1,h2.symm,q2⟩
        ·cases he
       ·cases ho
      have hids:∀i:Id,i.1∈order→∀o1,C.ρ i=some o1→∀x∈o1.ids,x.1∈order:=by
       intro i hi o1 ho1 x hx;obtain⟨o,h2,h3⟩:=r4 _ hi;rw[h.ρ]at ho1;simp only[flat,h2]at ho1;rcases flatR_ids ho1 x hx with h|h
       ·exact h3 _ h
       ·rw[h];exact hi
      have hext:Ext (liftF f) (fun i=>i.1∈order) C C':=by
       refine⟨fun _ _ _ h=>h,fun id L hid hb=>?_,fun id A hid ha=>⟨A,?_,Nat.le_refl _,fun _=>⟨rfl,rfl,Nat.le_refl _⟩⟩,fun id b hid hb=>?_⟩
       ·obtain⟨q1,q2⟩:=fwd id hid;rw[(zoe7 q1 q2).1];exact hb
       ·obtain⟨q1,q2⟩:=fwd id hid;rw[(zoe7 q1 q2).2.1];exact ha
       ·obtain⟨q1,q2⟩:=fwd id hid;rw[(zoe7 q1 q2).2.2];exact hb
      refine⟨C',rfl,rfl,?_,⟨fun t=>?_,h.env.glob⟩,h.size,?_,h.defers,h.ds,h.le⟩
      ·refine⟨fun j o ho=>?_,fun j j' o o' ho ho' hw hw' hne=>?_,fun j o ho hw=>?_,fun j j' x x' hx hx' hne=>?_,fun j x hx=>?_,h.inv.kept,h.inv.Fw,h.inv.Fsub,h.inv.Fnew⟩
       ·obtain⟨i,o1,b1,b2,b3,b4,b5⟩:=back j o ho;rw[b4,b5];exact (h.inv.objs i o1 b3).ren hext rfl rfl (hids i b1 o1 b3)
       ·obtain⟨i,o1,b1,b2,b3,b4,b5⟩:=back j o ho;obtain⟨i',o1',b1',b2',b3',b4',b5'⟩:=back j' o' ho';rw[b5,b5'];rw[b4,own_ren]at hw;rw[b4',own_ren]at hw';exact h.inv.disj i i' o1 o1' b3 b3' hw hw' (fun e=>hne (by rw[←b2,←b2',e]))
       ·obtain⟨i,o1,b1,b2,b3,b4,b5⟩:=back j o ho;rw[b5];rw[b4,own_ren]at hw;exact h.inv.own i o1 b3 hw
       ·obtain⟨i,o1,b1,b2,b3,b4,b5⟩:=back j _ hx;obtain⟨i',o1',b1',b2',b3',b4',b5'⟩:=back j' _ hx';rw[b5,b5'];obtain⟨y,rfl⟩:=zse7 b4.symm;obtain⟨y',rfl⟩:=zse7 b4'.symm;exact h.inv.bdisj i i' y y' b3 b3' (fun e=>hne (by rw[←b2,←b2',e]))
       ·obtain⟨i,o1,b1,b2,b3,b4,b5⟩:=back j _ hx;rw[b5];obtain⟨y,rfl⟩:=zse7 b4.symm;exact h.inv.bown i y b3
      ·have hm:∀i∈(gE s.env t).ids,i.1∈order:=by
        intro i hi;refine r3 i.1 (List.mem_append.2 (.inr ?_));rcases gE_mem (env:=s.env) (t:=t) with e|⟨p,h1,h2⟩
        ·rw[e]at hi;simp[AVal.ids]at hi
        ·obtain⟨k,hk⟩:=List.getElem?_of_mem (List.mem_map_of_mem (f:=fun x:Nat×AVal=>x.2) h1);exact List.mem_map.2 ⟨i,idsL_get hk i (by rw[h2];exact hi),rfl⟩
       have:=RepA.ext hext (gE s.env t) _ hm (h.env.env t);have e:=gE_map (AVal.tren f) rfl s.env t;simp only[e];exact this
      ·have hin:∀(id:Id) o,id.1.1=0→C.ρ id=some o→id.1∈order∧liftF f id=id:=by
        intro id o h0 ho
        have hmem:id.1∈order:=by
         refine r3 id.1 (List.mem_append.2 (.inl ?_));rw[h.ρ]at ho;simp only[flat]at ho;split at ho
         ·rename_i o' he;rw[List.mem_filter];exact⟨List.mem_map_of_mem (f:=fun x:RId×TObj=>x.1) (gT_mem he),by simpa using h0⟩
         ·cases ho
        refine⟨hmem,?_⟩;have:=List.all_eq_true.1 hfix id.1 hmem;have:f id.1=id.1:=by simpa[h0]using this
        rw[liftF,this]
       refine⟨h.ext.F,fun id L hid hb=>?_,fun id A hid ha=>?_,fun id b hid hb=>?_⟩;rotate_left 2
       ·have h1:=h.ext.blk id b hid hb
        have hex:∃o,C.ρ id=some o:=by
         unfold blkAt at h1;cases e:C.ρ id with
         |none=>simp[e]at h1
         |some o=>exact⟨o,rfl⟩
        obtain⟨o,ho⟩:=hex;obtain⟨q1,q2⟩:=hin id o hid ho;have:=hext.blk id b q1 h1
        rwa [q2]at this
       ·have h1:=h.ext.box id L hid hb
        have hex:∃o,C.ρ id=some o:=by
         unfold boxAt at h1;cases e:C.ρ id with
         |none=>simp[e]at h1
         |some o=>exact⟨o,rfl⟩
        obtain⟨o,ho⟩:=hex;obtain⟨q1,q2⟩:=hin id o hid ho;have:=hext.box id L q1 h1
        rwa [q2]at this
       ·obtain⟨A',h1,h2,h3⟩:=h.ext.arr id A hid ha
        have hex:∃o,C.ρ id=some o:=by
         unfold arrAt at h1;cases e:C.ρ id with
         |none=>simp[e]at h1
         |some o=>exact⟨o,rfl⟩
        obtain⟨o,ho⟩:=hex;obtain⟨q1,q2⟩:=hin id o hid ho;obtain⟨A'',h4,h5,h6⟩:=hext.arr id A' q1 h1;rw[q2]at h4;refine⟨A'',h4,Nat.le_trans h2 h5,fun e=>?_⟩;obtain⟨a1,a2,a3⟩:=h3 (by omega);obtain⟨b1,b2,b3⟩:=h6 (by omega);exact⟨by rw[b1,a1],by rw[b2,a2],by omega⟩
     ·cases hd
theorem reg_sound (hS:zyd7 P K) {an:Ann} {id:Nat} {ops:Array Oper} {draw:Bool} {r:AReg} (hc:cReg P n an id ops draw=some r) {s s':St} (h:runReg K r s=some s') {C:Ctx} {a:Act} (hG:Good B C0 C n s a)
  {Q:Exit→Act→World→Prop} (hQ:∀a' C',Good B C0 C' n s' a'→Q .normal a' C'.w):(Code.region id ops draw).wpIn (fR rd) 0 P Q a C.w:=by
 unfold cReg at hc;split at hc
 ·rename_i ra l hra hl;unfold runReg at h;split at h
  ·cases h
  ·rename_i s1 hdr;split at h
   ·cases h
   ·rename_i s2 lg hrun;split at h
    ·rename_i hpairs;simp only[Option.some.injEq]at h;subst h
     have hG1:∃C',C'.w=C.w∧Good B C0 C' n s1 a:=by
      exact (hG.restrict r.live).drop hdr
     obtain⟨C1,hw1,hG1⟩:=hG1;rw[←hw1];cases draw with
     |false=>
      simp only[Bool.false_eq_true,if_false,Option.some.injEq]at hc;subst hc;refine wpIn_region ?_;rw[List.range_eq_range'];exact seq_sound hS hl ops.size 0 s1 [] s2 lg C1 a (by omega) (by simpa using hrun) hG1.f fun a' C' hG'=>hQ a' C' hG'.good
     |true=>
      simp only[if_true]at hc;split at hc
      ·rename_i hchk;simp only[Bool.and_eq_true,Bool.not_eq_true']at hchk;obtain⟨⟨hm,he⟩,hcl⟩:=hchk;simp only[Option.some.injEq]at hc;subst hc;generalize hps:pairsOf ops.toList (l.map (·.1)) (befs ops.toList []) ops.size=ps at hcl hrun hpairs;obtain⟨hlen,hget⟩:=cOpers_get hl;obtain⟨alen,aget⟩:=aosOf_get (ps:=ps) (i:=0) hlen;obtain⟨outs,lgs,r1,r2,r3,r4,r5,r6⟩:=runOps_spec _ _ _ _ _ _ hrun;simp only[List.nil_append]at r2;subst r2
       have aoAt:∀i o,ops[i]?=some o→∃k gd,l[i]?=some (k,gd)∧(aosOf ps 0 ops.toList l)[i]?=some (⟨o.dst,k,gd,ps.any fun p=>p.1==i||p.2==i⟩:AO)∧cOper P n ((annOf an id).elim [] (·.marks)) ops.toList i o=some (k,gd):=by
        intro i o ho;have ho':ops.toList[i]?=some o:=by simpa using ho
        obtain⟨k,gd,h1,h2⟩:=hget i o ho';have:=aget i o k gd ho' h1;rw[Nat.zero_add]at this h2;exact⟨k,gd,h1,this,h2⟩
       have r5':=r5;have r6':=r6;rw[←slimAll_gM _ outs (gT s1.objs)]at r5';rw[←zqe7 outs (gT s1.objs)]at r6'
       have H:Drawn K P n ((annOf an id).elim [] (·.marks)) ops (aosOf ps 0 ops.toList l) (zqd7 (gT s1.objs) outs) outs (gE s1.env) (gT s1.objs):=by
        refine⟨by rw[alen];simp,fun i o ho=>?_,fun j o ho=>?_,fun j=>slimAll_fst _ _ _,fun j T' hT=>?_,fun j x hx=>?_,fun i o ho e hee=>?_,fun i j hij hj=>clashes_spec hcl i j hij hj,fun i j hij hj=>?_⟩
        ·obtain⟨k,gd,_,h2,h3⟩:=aoAt i o ho;exact⟨k,gd,_,h2,h3⟩
        ·rw[slimAll_gM,zqe7];exact (r4 j o ho).1
        ·rw[zqe7]at hT;rw[zaf7];exact slim_upd hT
        ·rw[slimAll_keys]at hx;obtain⟨u,h1,h2⟩:=List.mem_map.1 hx;exact List.mem_map.2 ⟨u,(List.mem_filter.1 h1).1,h2⟩
        ·have:=edgesOk_spec he i o (by simpa using ho) e hee;omega
        ·have hio:ops[i]?=some (ops[i]'(by omega)):=by simp
         have hjo:ops[j]?=some ops[j]:=by simp[hj]
         obtain⟨k1,g1,a1,a2,a3⟩:=aoAt i _ hio;obtain⟨k2,g2,b1,b2,b3⟩:=aoAt j _ hjo;rcases pairsOf_spec (ops:=ops.toList) (ks:=l.map (·.1)) (bs:=befs ops.toList []) i j hij hj with h|h|h
         ·exact .inl h
         ·right;rw[hps]at h;intro a b ha hb;right;have hpo:=(List.all_eq_true.1 hpairs) (i,j) h
          have la:=(r4 i a ha).2 (by
           rw[a2]at ha;cases ha;exact List.any_eq_true.2 ⟨(i,j),h,by simp⟩)
          have lb:=(r4 j b hb).2 (by
           rw[b2]at hb;cases hb;exact List.any_eq_true.2 ⟨(i,j),h,by simp⟩)
          rw[Nat.zero_add]at la lb;simp only[pairOk,la,lb]at hpo;simp only[slimAll_gM,zqe7,slimAll_keys];obtain⟨⟨⟨p1,p2⟩,p3⟩,p4⟩:=pairK_apart (fun x hx=>chgOf_sub hx) (fun x hx=>chgOf_sub hx) hpo;refine⟨fun x hx hxk=>?_,fun x hx hxk=>?_⟩
          ·rcases hx with hx|hx
           ·have:=meets_mem hx hxk;simp[this]at p3
           ·have:=meets_mem hx hxk;unfold zwc7 at hx;simp[this]at p4
          ·rcases hx with hx|hx
           ·have:=meets_mem hxk hx;simp[this]at p1
           ·have:=meets_mem hxk hx;simp[this]at p2
         ·right;intro a b ha hb;left;rw[a2]at ha;rw[b2]at hb;cases ha;cases hb;exact h k1 k2 (by simp[a1]) (by simp[b1])
       refine wpIn_region_any hm ?_
       have hG2:GoodF B C0 { C1 with w:=C1.w.drew } n (gE s1.env) (gT s1.objs) a:=by
        obtain⟨hi,hg⟩:=hG1.inv.drew;exact⟨hG1.ρ,hi,⟨fun t=>(hG1.env.env t).grow hg,hG1.env.glob.mono hg.F⟩,hG1.size,hG1.ext.thenGrow hg,hG1.defers,hG1.ds,hG1.le⟩
       have e0:∀N,gM (aosOf ps 0 ops.toList l) (zqd7 (gT s1.objs) outs) (fun i=>(Array.replicate ops.size false).getD i false) (gE s1.env) N=gE s1.env:=by
        intro N
        induction N with
        |zero=>rfl
        |succ N ih=>
         funext t
         have hf:(Array.replicate ops.size false).getD N false=false:=by
          simp only[Array.getD_eq_getD_getElem?,Array.getElem?_replicate];split<;>rfl
         simp only[gM,hf,Bool.false_eq_true,false_and,if_false,ih]
       have e1:∀N,rM (zqd7 (gT s1.objs) outs) (fun i=>(Array.replicate ops.size false).getD i false) (gT s1.objs) N=gT s1.objs:=by
        intro N
        induction N with
        |zero=>rfl
        |succ N ih=>
         have hf:(Array.replicate ops.size false).getD N false=false:=by
          simp only[Array.getD_eq_getD_getElem?,Array.getElem?_replicate];split<;>rfl
         simp only[rM,hf,Bool.false_eq_true,if_false,ih]
       have ea:(aosOf ps 0 ops.toList l).length=ops.size:=by rw[alen];simp
       refine any_sound hS H (Q:=Q) (fun a' C' hG'=>hQ a' C' ?_) ops.size (Array.replicate ops.size false) a { C1 with w:=C1.w.drew } (by simp) ?_ (by rw[e0,e1];exact hG2) (Nat.le_trans List.countP_le_length (by simp))
       ·rw[ea]at r5' r6';rw[←r5',←r6']at hG';exact hG'.good
       ·intro i o ho hf;exfalso;simp only[Array.getD_eq_getD_getElem?,Array.getElem?_replicate]at hf;split at hf<;>cases hf
      ·cases hc
    ·cases h
 ·cases hc
def toExit:AEx→Exit
 |.normal=>.normal
 |.exit id=>.exit id
 |.ret=>.ret
structure BLe (B B':Base):Prop where
 imp:∀C,Inv B' C→Inv B C
theorem BLe.refl (B:Base):BLe B B:=⟨fun _ h=>h⟩
theorem BLe.trans {A B C:Base} (h:BLe A B) (h':BLe B C):BLe A C:=⟨fun X hx=>h.imp X (h'.imp X hx)⟩
theorem Inv.rebase {C:Ctx} (hI:Inv B C) (ds:List Nat):Inv ⟨C.w,C.F,OwnSet C,OwnBlk C,ds⟩ C∧BLe B ⟨C.w,C.F,OwnSet C,OwnBlk C,ds⟩:=by
 have hM:∀b,OwnBlk C b→nc C.w b:=fun b ⟨id,x,h1,h2⟩=>by rw[←h2];exact (hI.objs id _ h1).2.nc.2
 refine⟨⟨hI.objs,hI.disj,fun id o ho how j hj=>.inl ⟨id,o,ho,how,j,hj,rfl,rfl⟩,hI.bdisj,fun id x hx=>.inl ⟨id,x,hx,rfl⟩,KeptB.reflM hM,hI.Fw,fun _ _ _ h=>h,fun _ _ _ h=>.inl h⟩,⟨fun X hX=>?_⟩⟩
 have own1:∀b x,OwnSet C b x→B.O b x∨B.w.heap.size≤b:=by
  rintro b x ⟨id,o,h1,h2,j,hj,rfl,rfl⟩;exact hI.own id o h1 h2 j hj
 have own2:∀b,OwnBlk C b→B.M b∨B.w.heap.size≤b:=by
  rintro b ⟨id,x,h1,rfl⟩;exact hI.bown id x h1
 have hsz:B.w.heap.size≤C.w.heap.size:=hI.kept.size;refine⟨hX.objs,hX.disj,fun id o ho how j hj=>?_,hX.bdisj,fun id x hx=>?_,?_,hX.Fw,fun b o v hv=>hX.Fsub _ _ _ (hI.Fsub _ _ _ hv),fun b o v hv=>?_⟩
 ·rcases hX.own id o ho how j hj with h|h
  ·exact own1 _ _ h
  ·exact .inr (Nat.le_trans hsz h)
 ·rcases hX.bown id x hx with h|h
  ·exact own2 _ h
  ·exact .inr (Nat.le_trans hsz h)
 ·refine hI.kept.trans hX.kept (fun _ _ _ h=>h) (fun b o hb h=>?_) (fun _ _ h=>h) (fun b hb h=>?_) (fun b hb h=>(hI.kept.blk b hb h).1)
  ·rcases own1 b o h with h1|h1
   ·exact h1
   ·omega
  ·rcases own2 b h with h1|h1
   ·exact h1
   ·omega
 ·rcases hX.Fnew b o v hv with h|h|h
  ·exact hI.Fnew _ _ _ h
  ·exact .inr (own1 _ _ h)
  ·exact .inr (.inr (Nat.le_trans hsz h))
theorem flat_put {T:TLook} {r:RId} {o:Obj} (h:T r=none∨∃o',T r=some (.plain o')):flat (fun j=>if r=j then some (.plain o) else T j)=updL (flat T) [((r,0,0),o)]:=by
 funext id;obtain⟨r',p,q⟩:=id;simp only[updL,flat];by_cases e:r=r'
 ·subst e;simp only[if_true,flatR];by_cases hp:p=0∧q=0
  ·obtain⟨rfl,rfl⟩:=hp;simp
  ·have:¬((r,0,0):Id)=(r,p,q):=fun x=>hp (by simp only[Prod.mk.injEq,true_and]at x;exact⟨x.1.symm,x.2.symm⟩)
   rw[if_neg hp,if_neg this];rcases h with h|⟨o',h⟩
   ·rw[h]
   ·rw[h];simp only[flatR,if_neg hp]
 ·have:¬((r,0,0):Id)=(r',p,q):=fun x=>e (by simp only[Prod.mk.injEq]at x;exact x.1)
  rw[if_neg this,if_neg e]
theorem OwnBlk.not_deferred {C:Ctx} (hI:Inv B C) {D:Nat} {ds:Option (List Deferred)} (h:C.w.heap[D]?=some (.deferred ds)):¬OwnBlk C D:=by
 rintro⟨id,x,h1,rfl⟩;have:=(hI.objs id _ h1).2;cases x with
 |map es=>obtain⟨_,_,e,_⟩:=this;rw[h]at e;cases e
 |loop k st env=>obtain⟨_,e,_⟩:=this;rw[h]at e;cases e
 |dead=>obtain⟨_,e⟩:=this;rw[h]at e;cases e
theorem zae7 {w:World} {D:Nat} {ds:Option (List Deferred)} (h:w.heap[D]?=some (.deferred ds)):nc w D:=fun c t fr e=>by rw[h]at e;cases e
theorem rf_sound (hS:zyd7 P K) {C:Ctx} {s:St} {a:Act} (hG:Good B C0 C n s a) {g:Operand} {ps:Array Tmp} {avs bd:Code} {ax:AX} (hx:cX g=some ax) {k site:Nat} {caps:List Nat} (hlp:Glob.lps k=some (n,ps,avs,bd))
  {f:FuncId} {vs:List AVal} (hf:evX (gE s.env) ax=.fn f vs) (hne':¬(f=YID∨BIGF≤f)) (hlid:gT s.objs (site+1,0)=none) {v:AVal} {us:List (RId×TObj)} {objs:zsa7} (hobjs:objs=pT s.objs (site+1,0) (.plain (.blk (.loop k .ready (caps.map fun t=>(t,gE s.env t))))))
  (hcall:callE K (site+1) f ((.bref true ((site+1,0),0,0),true)::vs.map fun v=>(v,true)) false (gT objs)=some (v,us))
  {k':Nat} {st:LSt} {env':Env} (hob:gT (pTs objs us) (site+1,0)=some (.plain (.blk (.loop k' st env')))) {y:AEx} (hy:st.out=some y)
  {Q:Exit→Act→World→Prop} (hQ:∀a' C' B',BLe B B'→Good B' C0 C' n ⟨s.env,pT (pTs objs us) (site+1,0) (.plain (.blk .dead))⟩ a'→Q (toExit y) a' C'.w):(Code.rangeFunc g ps avs bd).wpIn (fR none) 0 P Q a C.w:=by
 have hne:f≠YID:=fun e=>hne' (.inl e)
 have hnb:¬BIGF≤f:=fun e=>hne' (.inr e)
 refine wpIn_rangeFunc fun fn _=>?_
 obtain⟨rc,hrc⟩:∃rc:Go.Loop,rc={ state:=.ready,pending:=none,fn,tmps:=a.tmps,params:=ps,assign:=avs,body:=bd,defers:=C.w.heap.size }:=⟨_,rfl⟩;obtain⟨i1,g1⟩:=hG.inv.plain (C':={ C with w:=C.w.alloc (.deferred (some [])) }) (Kept.allocN _ _ _ (by simp)) (fun _ _ _ h=>h) (fun _ _ _ h=>.inl h) (fun b o v hv e=>by simp only at hv;rw[e]at hv;cases hv) rfl rfl
 have hnone:({ C with w:=C.w.alloc (.deferred (some [])) }:Ctx).ρ ((site+1,0),0,0)=none:=by
  simp only[hG.ρ,flat,hlid]
 obtain⟨i2,g2,e2⟩:=i1.newBlk hnone (.loop rc) (by simp) (.loop k .ready (caps.map fun t=>(t,gE s.env t))) (fun C' e1 e2 hg=>by
  refine⟨rc,by rw[e1];exact alloc_new _ _,by rw[hrc];simp only[hG.size];exact hlp,by rw[hrc];exact⟨rfl,rfl⟩,fun p hp=>?_⟩;obtain⟨t,_,rfl⟩:=List.mem_map.1 hp;rw[hrc];exact ((hG.env.env t).grow g1).grow hg)
 generalize hC2:({ w:=(C.w.alloc (.deferred (some []))).alloc (.loop rc),F:=C.F,μ:=fun i=>if i=((site+1,0),0,0) then ⟨(C.w.alloc (.deferred (some []))).heap.size,0,0⟩ else C.μ i,ρ:=fun i=>if i=((site+1,0),0,0) then some (.blk (.loop k .ready (caps.map fun t=>(t,gE s.env t)))) else C.ρ i }:Ctx)=C2 at i2 g2 e2;have hw2:C2.w=(C.w.alloc (.deferred (some []))).alloc (.loop rc):=by rw[←hC2]
 have hρ2:C2.ρ=flat (gT objs):=by
  rw[e2,hobjs];simp only[hG.ρ];rw[←flat_put (.inl hlid)]
  congr 1
  funext j;rw[gT_pT]
 have hat2:blkAt C2 ((site+1,0),0,0)=some (C.w.heap.size+1):=by
  rw[←hC2];simp[blkAt]
 have g12:=g1.trans g2;have hgl2:GlobOK C2.F:=hG.env.glob.mono g12.F;obtain⟨i2',ble2⟩:=i2.rebase (B:=B) [];have hgv:=zea7 hG.env hx;rw[hf]at hgv;simp only[RepA]at hgv;obtain⟨cs,v1,v2⟩:=hgv;rw[if_neg hnb]at v1
 obtain⟨Cc,vs',os,rv,os',c1,c2,c3,c4,c5,c6,c7⟩:=callE_core (vals:=.func (.yield (C.w.heap.size+1)) #[] #[]::cs.toList) i2' hρ2 hgl2 (by
  simp only[List.map_cons,List.map_map,RepL];refine⟨_,_,rfl,?_,?_⟩
  ·simp only[RepA,if_true];exact⟨_,hat2,rfl⟩
  ·have:(Prod.fst∘fun v:AVal=>(v,true))=id:=rfl;rw[this,List.map_id];exact v2.grow g12) hcall
 have hc:zkb7 P f=true∧CallOK P f vs' os rv os':=by
  rcases hS _ _ _ _ _ c6 with⟨_,q⟩|⟨q,_⟩
  ·exact q
  ·exact absurd q hne
 have hD1:C2.w.heap[C.w.heap.size]?=some (.deferred (some [])):=by
  rw[hw2]
  have:((C.w.alloc (.deferred (some []))).heap.push (.loop rc))[C.w.heap.size]?=(C.w.alloc (.deferred (some []))).heap[C.w.heap.size]?:=by
   rw[Array.getElem?_push,if_neg (by simp)]
  exact this.trans (alloc_new _ _)
 refine⟨C.w.heap.size+1,[{ target:=.collected C.w.heap.size,args:=#[] }],C2.w,{ target:=.fn (.func f) cs,args:=#[.func (.yield (C.w.heap.size+1)) #[] #[]] },C2.w,f,
  #[.func (.yield (C.w.heap.size+1)) #[] #[]]++cs,C2.w,?_,?_,fun _ _=>trivial,?_,(fun h=>by cases h),?_⟩
 ·rw[hw2,hrc];exact run_enterLoop_outer _ _ _ _ _
 ·simp only[resolve,v1];simp[go_sem]
 ·have:=run_enter hc.1 C2.w (args:=#[.func (.yield (C.w.heap.size+1)) #[] #[]]++cs);simp[invoke,go_sem,this]
 ·have hcl:=hc.2 Cc (#[.func (.yield (C.w.heap.size+1)) #[] #[]]++cs) c2 c3 c4 (by simpa using c5);rw[c1]at hcl;have hcl':CallsIn (fR none) (0-1) P f (#[.func (.yield (C.w.heap.size+1)) #[] #[]]++cs) C2.w (PostOK Cc os rv os'):=callsIn_wide.2 hcl;refine hcl'.mono fun e w3 hp=>?_
  obtain⟨val,rfl,C3,k1,k2,k3,k4,k5⟩:=c7 e w3 hp;subst k1
  have hC3:C3.ρ ((site+1,0),0,0)=some (.blk (.loop k' st env')):=by
   rw[k2,←gT_pTs];simp only[flat,hob,flatR,and_self,if_true]
  have hat3:=k4.blk _ _ trivial hat2;have hb3:(C3.μ ((site+1,0),0,0)).b=C.w.heap.size+1:=by simpa[blkAt,hC3]using hat3
  obtain⟨_,r3,l1,l2,l3,l4⟩:=k3.objs _ _ hC3;rw[hb3]at l1
  have hnb:r3.state≠.busy:=by
   cases st with
   |ready=>rw[l3.1];simp
   |busy=>simp[LSt.out]at hy
   |done e=>rw[l3.1];simp
  have hend:=run_endLoop (P:=P) l1 hnb
  obtain⟨i4,g4⟩:=k3.turn hC3 (.loop { r3 with state:=.exhausted }) (by simp) .dead (fun C' e1 e2 hg=>by
   rw[hb3]at e1 ⊢;refine⟨{ r3 with state:=.exhausted },?_⟩;rw[e1];have:=(Array.getElem?_eq_some_iff.1 l1).1;simp[this])
  rw[hb3]at i4 g4;generalize hC4:({ C3 with w:={ C3.w with heap:=C3.w.heap.setIfInBounds (C.w.heap.size+1) (.loop { r3 with state:=.exhausted }) },ρ:=updL C3.ρ [(((site+1,0),0,0),.blk .dead)] }:Ctx)=C4 at i4 g4;have hw4:C4.w=C3.w.putObj (C.w.heap.size+1) (.loop { r3 with state:=.exhausted }):=by rw[←hC4];rfl
  have hρ4:C4.ρ=flat (gT (pT (pTs objs us) (site+1,0) (.plain (.blk .dead)))):=by
   have h1:C4.ρ=updL C3.ρ [(((site+1,0),0,0),.blk .dead)]:=by rw[←hC4]
   rw[h1,k2,←gT_pTs,←flat_put (.inr ⟨_,hob⟩)]
   congr 1
   funext j;rw[gT_pT]
  obtain⟨i5,ble5⟩:=i4.rebase (C.w.heap.size::B.ds);have hgr:Grow C C4:=(g12.trans k4).trans g4;have hD3:C3.w.heap[C.w.heap.size]?=some (.deferred (some [])):=k3.kept.heap hD1 (zae7 hD1) (OwnBlk.not_deferred i2 hD1)
  have hD4:C4.w.heap[C.w.heap.size]?=some (.deferred (some [])):=by
   rw[hw4,World.putObj_heap_other (by omega)];exact hD3
  have hdsB:∀D∈B.ds,C4.w.heap[D]?=some (.deferred (some []))∧C0.w.heap.size≤D:=by
   intro D hD;obtain⟨q1,q2,q3⟩:=hG.ds D hD;have hI4:=ble2.imp _ i4;exact⟨hI4.kept.heap q1 (zae7 q1) q2,q3⟩
  have hC0:C0.w.heap.size≤C.w.heap.size:=Nat.le_trans hG.le.1 hG.inv.kept.size
  have hGood:Good ⟨C4.w,C4.F,OwnSet C4,OwnBlk C4,C.w.heap.size::B.ds⟩ C0 C4 n ⟨s.env,pT (pTs objs us) (site+1,0) (.plain (.blk .dead))⟩ { a with defers:=[{ target:=.collected C.w.heap.size,args:=#[] }]++a.defers }:=by
   refine⟨hρ4,i5,⟨fun t=>(hG.env.env t).grow hgr,hG.env.glob.mono hgr.F⟩,hG.size,hG.ext.thenGrow hgr,?_,fun D hD=>?_,Nat.le_trans hC0 ?_,List.nodup_cons.2 ⟨fun hm=>?_,hG.le.2⟩⟩
   ·simp only[marks,List.map_cons,List.singleton_append,hG.defers]
   ·simp only[List.mem_cons]at hD;rcases hD with rfl|hD
    ·exact⟨hD4,OwnBlk.not_deferred i4 hD4,hC0⟩
    ·obtain⟨q1,q2⟩:=hdsB D hD;exact⟨q1,OwnBlk.not_deferred i4 q1,q2⟩
   ·have:=(Array.getElem?_eq_some_iff.1 hD4).1
    show C.w.heap.size≤C4.w.heap.size
    omega
   ·have h1:=(Array.getElem?_eq_some_iff.1 (hG.ds _ hm).1).1;have h2:=hG.inv.kept.size;omega
  have hfin:=hQ _ C4 _ (ble2.trans ble5) hGood;refine⟨r3.pending,_,hend,?_⟩;rw[hw4]at hfin;generalize C3.w.putObj (C.w.heap.size+1) (.loop { r3 with state:=.exhausted })=W at hfin ⊢;cases st with
  |ready=>
   simp only[LSt.out,Option.some.injEq]at hy;subst hy;rw[l3.2];exact hfin
  |busy=>simp[LSt.out]at hy
  |done e=>
   simp only[LSt.out,Option.some.injEq]at hy;subst hy;rw[l3.2.1];cases e with
   |normal=>exact absurd rfl l3.2.2
   |ret=>exact wpIn_ret hfin
   |exit id=>exact wpIn_exit hfin
theorem zkd7 {b:Frame} {a:Act} {k:List Item} {cs:List Frame} {w:World} {c:Code}:step P (lone (b.atR a (.code (.scope c)::k)) cs w)=.next (lone (b.atR a (.code c::.inScope c::k)) cs w):=
 step_lone_go (by simp[stepG,stepG.exec,Frame.atR])
theorem stepR_inScope {b:Frame} {a:Act} {k:List Item} {cs:List Frame} {w:World} {c:Code}:step P (lone (b.atR a (.inScope c::k)) cs w)=.next (lone (b.atR a k) cs w):=
 step_lone_go (by simp[stepG,stepG.exec,Frame.atR])
theorem wpIn_scope_straight {F:Fence} {n:Nat} {c:Code} {Q:Exit→Act→World→Prop} {a:Act} {w:World} (h:c.wpIn F n P (Exit.noGoto Q) a w):(Code.scope c).wpIn F n P Q a w:=by
 intro b k cs hro hb hr;have h0:(lone (b.atR a (.code (.scope c)::k)) cs w).fenced P F:=fenced_calm hb hr rfl;obtain⟨e,a₁,w₁,hq,harr⟩:=h b (.inScope c::k) cs hro hb hr;cases e with
 |normal=>exact⟨.normal,a₁,w₁,hq,.head h0 zkd7 (StepsIn.trans harr (.one (fenced_calm hb hr rfl) stepR_inScope))⟩
 |exit id=>
  have hx:exitTo id (.inScope c::k)=exitTo id k:=by simp[exitTo]
  exact⟨.exit id,a₁,w₁,hq,fun k' hk=>.head h0 zkd7 (harr.1 k' (by rw[hx];exact hk)),fun hr' hk=>let ⟨k₁,h1,h2⟩:=harr.2 hr' (by rw[hx];exact hk);⟨k₁,h1,.head h0 zkd7 h2⟩⟩
 |goto l=>exact hq.elim
 |ret=>exact⟨_,a₁,w₁,hq,.of_steps (.one h0 zkd7) harr⟩
 |panic ch=>exact⟨_,a₁,w₁,hq,.of_steps (.one h0 zkd7) harr⟩
 |outgrown=>exact⟨_,a₁,w₁,hq,.of_steps (.one h0 zkd7) harr⟩
theorem code_sound (hS:zyd7 P K) {an:Ann}:∀{c:Code} {ac:AC},cCode P n an c=some ac→(rd=none∨rfs c=[])→(∀st∈rfs c,Glob.lps (tagOf an)=some (n,st))→∀{s s':St} {x:AEx},exec K ac s=some (x,s')→∀{B:Base} {C:Ctx} {a:Act},Good B C0 C n s a→
  ∀{Q:Exit→Act→World→Prop},(∀a' C' B',BLe B B'→Good B' C0 C' n s' a'→Q (toExit x) a' C'.w)→c.wpIn (fR rd) 0 P Q a C.w:=by
 intro c
 induction c with
 |skip=>
  intro ac hc hrd hl s s' x h B C a hG Q hQ;simp only[cCode,Option.some.injEq]at hc;subst hc;simp only[exec,Option.some.injEq,Prod.mk.injEq]at h;obtain⟨rfl,rfl⟩:=h;exact wpIn_skip (hQ a C B (.refl B) hG)
 |region id ops draw=>
  intro ac hc hrd hl s s' x h B C a hG Q hQ;simp only[cCode]at hc;cases hr:cReg P n an id ops draw with
  |none=>rw[hr]at hc;cases hc
  |some r=>
   rw[hr]at hc;simp only[Option.map_some,Option.some.injEq]at hc;subst hc;simp only[exec]at h;split at h
   ·rename_i s1 h1;simp only[Option.some.injEq,Prod.mk.injEq]at h;obtain⟨rfl,rfl⟩:=h;exact reg_sound hS hr h1 hG fun a' C' hG'=>hQ a' C' B (.refl B) hG'
   ·cases h
 |seq c1 c2 ih1 ih2=>
  intro ac hc hrd hl s s' x h B C a hG Q hQ;simp only[rfs,List.append_eq_nil_iff]at hrd;simp only[rfs,List.mem_append]at hl;have r1:rd=none∨rfs c1=[]:=hrd.imp (fun h=>h) (·.1);have r2:rd=none∨rfs c2=[]:=hrd.imp (fun h=>h) (·.2);simp only[cCode]at hc;split at hc
  ·rename_i a1 a2 h1 h2;simp only[Option.some.injEq]at hc;subst hc;simp only[exec]at h;refine wpIn_seq ?_;split at h
   ·rename_i s1 hs1;refine ih1 h1 r1 (fun st hs=>hl st (.inl hs)) hs1 hG fun a' C' B' hB hG'=>?_
    exact ih2 h2 r2 (fun st hs=>hl st (.inr hs)) h hG' fun a2 C2 B2 hB2 hG2=>hQ a2 C2 B2 (hB.trans hB2) hG2
   ·rename_i hne;refine ih1 h1 r1 (fun st hs=>hl st (.inl hs)) h hG fun a' C' B' hB hG'=>?_
    cases x with
    |normal=>exact absurd h (hne s')
    |exit id=>exact hQ a' C' B' hB hG'
    |ret=>exact hQ a' C' B' hB hG'
  ·cases hc
 |cond cx c1 c2 ih1 ih2=>
  intro ac hc hrd hl s s' x h B C a hG Q hQ;simp only[rfs,List.append_eq_nil_iff]at hrd;simp only[rfs,List.mem_append]at hl;have r1:rd=none∨rfs c1=[]:=hrd.imp (fun h=>h) (·.1);have r2:rd=none∨rfs c2=[]:=hrd.imp (fun h=>h) (·.2);simp only[cCode]at hc;split at hc
  ·rename_i ax a1 a2 hx h1 h2;simp only[Option.some.injEq]at hc;subst hc;simp only[exec]at h;split at h
   ·rename_i t ht;have hr:=zea7 hG.env hx;rw[ht]at hr;refine wpIn_cond (rep_bool hr) ?_;cases t with
    |true=>exact ih1 h1 r1 (fun st hs=>hl st (.inl hs)) h hG hQ
    |false=>exact ih2 h2 r2 (fun st hs=>hl st (.inr hs)) h hG hQ
   ·cases h
  ·cases hc
 |block id c ih=>
  intro ac hc hrd hl s s' x h B C a hG Q hQ;simp only[cCode]at hc;cases hr:cCode P n an c with
  |none=>rw[hr]at hc;cases hc
  |some r=>
   rw[hr]at hc;simp only[Option.map_some,Option.some.injEq]at hc;subst hc;simp only[exec]at h;refine wpIn_block ?_;split at h
   ·rename_i id' s1 h1;refine ih hr hrd hl h1 hG fun a' C' B' hB hG'=>?_
    simp only[toExit,Exit.inBlock];split at h
    ·rename_i e;simp only[Option.some.injEq,Prod.mk.injEq]at h;obtain⟨rfl,rfl⟩:=h;rw[if_pos e];exact hQ a' C' B' hB hG'
    ·rename_i e;simp only[Option.some.injEq,Prod.mk.injEq]at h;obtain⟨rfl,rfl⟩:=h;rw[if_neg e];exact hQ a' C' B' hB hG'
   ·rename_i hne;refine ih hr hrd hl h hG fun a' C' B' hB hG'=>?_
    cases x with
    |normal=>exact hQ a' C' B' hB hG'
    |exit id'=>exact absurd h (hne id' s')
    |ret=>exact hQ a' C' B' hB hG'
 |loop c ih=>
  intro ac hc hrd hl s s' x h B C a hG Q hQ;simp only[cCode]at hc;cases hr:cCode P n an c with
  |none=>rw[hr]at hc;cases hc
  |some r=>
   rw[hr]at hc;simp only[Option.map_some,Option.some.injEq]at hc;subst hc;simp only[exec,zga7]at h;split at h
   ·rename_i hex;simp only[Option.some.injEq]at h;have hN:=Classical.choose_spec hex;rw[h]at hN;obtain⟨N,hN⟩:=hN;refine wpIn_loop_rounds N ?_;clear hex h
    induction N generalizing s C a B with
    |zero=>simp[iter]at hN
    |succ N ihN=>
     rw[roundsIn_succ];simp only[iter]at hN;split at hN
     ·cases hN
     ·rename_i s1 h1;refine ih hr hrd hl h1 hG fun a' C' B' hB hG'=>?_
      exact ihN hG' (fun a2 C2 B2 hB2 hG2=>hQ a2 C2 B2 (hB.trans hB2) hG2) hN
     ·rename_i p hne h1;simp only[Option.some.injEq]at hN;subst hN;refine ih hr hrd hl h1 hG fun a' C' B' hB hG'=>?_
      cases x with
      |normal=>exact (hne s' rfl).elim
      |exit id=>exact hQ a' C' B' hB hG'
      |ret=>exact hQ a' C' B' hB hG'
   ·cases h
 |exit id=>
  intro ac hc hrd hl s s' x h B C a hG Q hQ;simp only[cCode,Option.some.injEq]at hc;subst hc;simp only[exec,Option.some.injEq,Prod.mk.injEq]at h;obtain⟨rfl,rfl⟩:=h;exact wpIn_exit (hQ a C B (.refl B) hG)
 |ret=>
  intro ac hc hrd hl s s' x h B C a hG Q hQ;simp only[cCode,Option.some.injEq]at hc;subst hc;simp only[exec,Option.some.injEq,Prod.mk.injEq]at h;obtain⟨rfl,rfl⟩:=h;exact wpIn_ret (hQ a C B (.refl B) hG)
 |label l=>
  intro ac hc hrd hl s s' x h B C a hG Q hQ;simp only[cCode,Option.some.injEq]at hc;subst hc;simp only[exec,Option.some.injEq,Prod.mk.injEq]at h;obtain⟨rfl,rfl⟩:=h;exact wpIn_label (hQ a C B (.refl B) hG)
 |scope c ih=>
  intro ac hc hrd hl s s' x h B C a hG Q hQ;simp only[cCode]at hc;refine wpIn_scope_straight (ih hc hrd hl h hG fun a' C' B' hB hG'=>?_);cases x<;>exact hQ a' C' B' hB hG'
 |rangeFunc g ps avs bd ih1 ih2=>
  intro ac hc hrd hl s s' x h B C a hG Q hQ;simp only[cCode]at hc;split at hc
  ·rename_i rn ax hrn hx;simp only[Option.some.injEq]at hc;subst hc;have hrd':rd=none:=hrd.resolve_right (by simp[rfs]);subst hrd';have hlp:=hl (ps,avs,bd) (by simp[rfs]);simp only[exec,rfE]at h;split at h
   ·rename_i f vs hf;split at h
    ·cases h
    ·rename_i hne;split at h
     ·cases h
     ·rename_i hlid;split at h
      ·cases h
      ·rename_i v us hcall;split at h
       ·rename_i k' st env' hob;split at h
        ·rename_i y hy;simp only[Option.some.injEq,Prod.mk.injEq]at h;obtain⟨rfl,rfl⟩:=h;exact rf_sound hS hG hx hlp hf hne hlid rfl hcall hob hy hQ
        ·cases h
       ·cases h
   ·cases h
  ·cases hc
 |_=>intro ac hc;simp[cCode]at hc
end
end Go.Am
