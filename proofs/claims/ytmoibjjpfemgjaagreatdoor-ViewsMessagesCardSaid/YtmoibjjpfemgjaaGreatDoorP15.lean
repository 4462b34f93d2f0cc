/- Parts of the proofs of the statement, joined and made short: AmMix AmDraw. -/
import Derived.Test.YtmoibjjpfemgjaaGreatDoorP14
set_option linter.unusedVariables false
set_option linter.unusedSimpArgs false
set_option linter.unusedSectionVars false
namespace Go.Am
variable [Glob]
def dstAt (aos:List AO) (k:Nat):Option Nat:=(aos[k]?).bind (·.dst)
def outAt (outs:List TOut) (k:Nat):TOut:=(outs[k]?).getD (.undef,[])
def gM (aos:List AO) (outs:List TOut) (D:Nat→Bool) (g0:Nat→AVal):Nat→Nat→AVal
 |0=>g0
 |k+1=>fun t=>if D k=true∧dstAt aos k=some t then (outAt outs k).1 else gM aos outs D g0 k t
def rM (outs:List TOut) (D:Nat→Bool) (ρ0:TLook):Nat→TLook
 |0=>ρ0
 |k+1=>if D k=true then updT (rM outs D ρ0 k) (outAt outs k).2 else rM outs D ρ0 k
def zwc7 (outs:List TOut) (k:Nat):List RId:=(outAt outs k).2.map (·.1)
abbrev every:Nat→Bool:=fun _=>true
theorem znf7:∀{upd:List (RId×TObj)} {ρ:TLook} {x:RId},x∉upd.map (·.1)→updT ρ upd x=ρ x
 |[],ρ,x,_=>rfl
 |(i,o)::r,ρ,x,h=>by
  simp only[List.map_cons,List.mem_cons,not_or]at h;rw[updT,znf7 h.2,if_neg (fun e=>h.1 e.symm)]
theorem updT_at:∀{upd:List (RId×TObj)} {ρ ρ':TLook} {x:RId},(x∈upd.map (·.1)∨ρ x=ρ' x)→updT ρ upd x=updT ρ' upd x
 |[],ρ,ρ',x,h=>by simpa[updT]using h
 |(i,o)::r,ρ,ρ',x,h=>by
  simp only[updT];refine updT_at ?_;by_cases e:i=x
  ·exact .inr (by simp[e])
  ·simp only[List.map_cons,List.mem_cons]at h;rcases h with (h|h)|h
   ·exact absurd h.symm e
   ·exact .inl h
   ·exact .inr (by simp[e,h])
section
variable {aos:List AO} {outs:List TOut} {D:Nat→Bool} {g0:Nat→AVal} {ρ0:TLook}
theorem gM_agree {i t:Nat} (h1:∀k,k<i→dstAt aos k=some t→D k=true):∀(N:Nat),i≤N→(∀k,i≤k→k<N→dstAt aos k=some t→D k=false)→gM aos outs D g0 N t=gM aos outs every g0 i t:=by
 have low:∀n,n≤i→gM aos outs D g0 n t=gM aos outs every g0 n t:=by
  intro n
  induction n with
  |zero=>intro _;rfl
  |succ n ih=>
   intro hn;simp only[gM,ih (by omega)];by_cases hd:dstAt aos n=some t
   ·rw[if_pos ⟨h1 n (by omega) hd,hd⟩,if_pos ⟨trivial,hd⟩]
   ·rw[if_neg (fun x=>hd x.2),if_neg (fun x=>hd x.2)]
 intro N hN
 induction N with
 |zero=>
  intro _;have:i=0:=by omega
  subst this;rfl
 |succ N ih=>
  intro h2;by_cases e:i=N+1
  ·subst e;exact low _ (Nat.le_refl _)
  ·simp only[gM];rw[if_neg (fun x=>by rw[h2 N (by omega) (by omega) x.2]at x;exact absurd x.1 (by simp))];exact ih (by omega) fun k hk hk'=>h2 k hk (by omega)
theorem rM_agree {i:Nat} {x:RId} (h1:∀k,k<i→x∈zwc7 outs k→D k=true):∀(N:Nat),i≤N→(∀k,i≤k→k<N→x∈zwc7 outs k→D k=false)→rM outs D ρ0 N x=rM outs every ρ0 i x:=by
 have low:∀n,n≤i→rM outs D ρ0 n x=rM outs every ρ0 n x:=by
  intro n
  induction n with
  |zero=>intro _;rfl
  |succ n ih=>
   intro hn;simp only[rM,if_true];by_cases hd:x∈zwc7 outs n
   ·rw[if_pos (h1 n (by omega) hd)];exact updT_at (.inl hd)
   ·rw[znf7 (upd:=(outAt outs n).2) hd];split
    ·rw[znf7 (upd:=(outAt outs n).2) hd,ih (by omega)]
    ·exact ih (by omega)
 intro N hN
 induction N with
 |zero=>
  intro _;have:i=0:=by omega
  subst this;rfl
 |succ N ih=>
  intro h2;by_cases e:i=N+1
  ·subst e;exact low _ (Nat.le_refl _)
  ·simp only[rM];have hr:=ih (by omega) fun k hk hk'=>h2 k hk (by omega)
   by_cases hd:x∈zwc7 outs N
   ·rw[h2 N (by omega) (by omega) hd];exact hr
   ·split
    ·rw[znf7 (upd:=(outAt outs N).2) hd];exact hr
    ·exact hr
def addD (D:Nat→Bool) (i:Nat):Nat→Bool:=fun k=>D k||k==i
theorem gM_add {i:Nat} (hD:D i=false) (t:Nat):∀(N:Nat),i<N→(∀k,i<k→k<N→dstAt aos i=some t→dstAt aos k=some t→D k=false)→
  gM aos outs (addD D i) g0 N t=if dstAt aos i=some t then (outAt outs i).1 else gM aos outs D g0 N t:=by
 have low:∀n,n≤i→gM aos outs (addD D i) g0 n t=gM aos outs D g0 n t:=by
  intro n
  induction n with
  |zero=>intro _;rfl
  |succ n ih=>
   intro hn;have hne:(n==i)=false:=by simp;omega
   simp only[gM,ih (by omega),addD,hne,Bool.or_false]
 intro N
 induction N with
 |zero=>intro h;omega
 |succ N ih=>
  intro hN hk;by_cases e:N=i
  ·subst e;simp only[gM,addD,BEq.rfl,Bool.or_true,true_and,hD,Bool.false_eq_true,false_and,if_false];split
   ·rfl
   ·exact low _ (Nat.le_refl _)
  ·have hne:(N==i)=false:=by simp;omega
   simp only[gM,addD,hne,Bool.or_false];have hr:=ih (by omega) fun k h1 h2=>hk k h1 (by omega)
   by_cases hd:dstAt aos i=some t
   ·simp only[hd,if_true]at hr ⊢;by_cases hN':dstAt aos N=some t
    ·rw[hk N (by omega) (by omega) hd hN'];simpa using hr
    ·rw[if_neg (fun x=>hN' x.2)];exact hr
   ·simp only[hd,if_false]at hr ⊢;split
    ·rfl
    ·exact hr
theorem rM_add {i:Nat} (hD:D i=false) (x:RId):∀(N:Nat),i<N→(∀k,i<k→k<N→x∈zwc7 outs i→x∈zwc7 outs k→D k=false)→
  rM outs (addD D i) ρ0 N x=updT (rM outs D ρ0 N) (outAt outs i).2 x:=by
 have low:∀n,n≤i→rM outs (addD D i) ρ0 n=rM outs D ρ0 n:=by
  intro n
  induction n with
  |zero=>intro _;rfl
  |succ n ih=>
   intro hn;have hne:(n==i)=false:=by simp;omega
   simp only[rM,ih (by omega),addD,hne,Bool.or_false]
 intro N
 induction N with
 |zero=>intro h;omega
 |succ N ih=>
  intro hN hk;by_cases e:N=i
  ·subst e;simp only[rM,addD,BEq.rfl,Bool.or_true,if_true,hD,Bool.false_eq_true,if_false];have:=low N (Nat.le_refl _);rw[this]
  ·have hne:(N==i)=false:=by simp;omega
   simp only[rM];have hs:addD D i N=D N:=by simp[addD,hne]
   rw[hs];have hr:=ih (by omega) fun k h1 h2=>hk k h1 (by omega)
   by_cases hx:x∈zwc7 outs i
   ·have hup:∀ρ ρ':TLook,updT ρ (outAt outs i).2 x=updT ρ' (outAt outs i).2 x:=fun _ _=>updT_at (.inl hx)
    by_cases hN':x∈zwc7 outs N
    ·rw[hk N (by omega) (by omega) hx hN'];simpa using hr
    ·split
     ·rw[znf7 (upd:=(outAt outs N).2) hN',hr];exact hup _ _
     ·exact hr
   ·rw[znf7 (upd:=(outAt outs i).2) hx]at hr ⊢;split
    ·exact updT_at (.inr hr)
    ·exact hr
end
section
variable {K:Orc}
theorem gM_cons (o:AO) (r:List AO) (out:TOut) (outs:List TOut) (g0:Nat→AVal):∀j,gM (o::r) (out::outs) every g0 (j+1)=gM r outs every (fun t=>if o.dst=some t then out.1 else g0 t) j
 |0=>by
  funext t;simp[gM,dstAt,outAt]
 |j+1=>by
  funext t;rw[gM,gM_cons o r out outs g0 j,gM];simp[dstAt,outAt]
theorem rM_cons (out:TOut) (outs:List TOut) (ρ0:TLook):∀j,rM (out::outs) every ρ0 (j+1)=rM outs every (updT ρ0 out.2) j
 |0=>by simp[rM,outAt]
 |j+1=>by
  rw[rM,rM_cons out outs ρ0 j,rM];simp[outAt]
theorem logAt_append_left {l l':Log} {i:Nat} (h:∀p∈l,p.1≠i):logAt (l++l') i=logAt l' i:=by
 induction l with
 |nil=>rfl
 |cons p r ih=>
  obtain⟨j,a⟩:=p;have hj:¬j=i:=h (j,a) (by simp);simp only[List.cons_append,logAt,hj,if_false];exact ih fun p hp=>h p (by simp[hp])
theorem runOps_spec:∀(r:List AO) (i:Nat) (s:St) (lg:Log) (s':St) (lg':Log),zhd7 K i r s lg=some (s',lg')→
  ∃(outs:List TOut) (lgs:Log),outs.length=r.length∧lg'=lg++lgs∧(∀p∈lgs,i≤p.1)∧
   (∀j o,r[j]?=some o→aoE K o (gM r outs every (gE s.env) j) (rM outs every (gT s.objs) j)=some (outAt outs j)∧
    (o.lg=true→logAt lgs (i+j)=⟨zie7 o.k (gM r outs every (gE s.env) j) (rM outs every (gT s.objs) j),zwc7 outs j,chgOf (rM outs every (gT s.objs) j) (outAt outs j).2⟩))∧
   gE s'.env=gM r outs every (gE s.env) r.length∧gT s'.objs=rM outs every (gT s.objs) r.length
 |[],i,s,lg,s',lg',h=>by
  simp only[zhd7,Option.some.injEq,Prod.mk.injEq]at h;obtain⟨rfl,rfl⟩:=h;exact⟨[],[],rfl,by simp,by simp,by simp,rfl,rfl⟩
 |o::r,i,s,lg,s',lg',h=>by
  simp only[zhd7]at h;split at h
  ·cases h
  ·rename_i out ho;obtain⟨outs,lgs,h1,h2,h3,h4,h5,h6⟩:=runOps_spec r _ _ _ _ _ h
   have eg:gE (putE s.env o.dst out.1)=fun t=>if o.dst=some t then out.1 else gE s.env t:=by
    funext t;exact gE_putE _ _ _ _
   simp only[eg,gT_pTs]at h4 h5 h6;refine⟨out::outs,logOf o i (gE s.env) (gT s.objs) out++lgs,by simp[h1],by rw[h2,List.append_assoc],?_,?_,?_,?_⟩
   ·intro p hp;rcases List.mem_append.1 hp with hp|hp
    ·unfold logOf at hp;split at hp
     ·simp at hp;subst hp;exact Nat.le_refl _
     ·cases hp
    ·have:=h3 p hp;omega
   ·intro j o' hj;cases j with
    |zero=>
     simp at hj;subst hj;refine⟨by simpa[gM,rM,outAt]using ho,fun hl=>?_⟩;simp[logOf,hl,logAt,gM,rM,zwc7,outAt]
    |succ j=>
     simp at hj;obtain⟨a1,a2⟩:=h4 j o' hj;rw[gM_cons,rM_cons];refine⟨by simpa[outAt]using a1,fun hl=>?_⟩;rw[logAt_append_left,show i+(j+1)=i+1+j by omega,a2 hl]
     ·simp[zwc7,outAt]
     ·intro p hp;unfold logOf at hp;split at hp
      ·simp at hp;subst hp;simp
      ·cases hp
   ·rw[h5,List.length_cons,gM_cons]
   ·rw[h6,List.length_cons,rM_cons]
end
theorem updT_filter (p:RId→Bool):∀(upd:List (RId×TObj)) (T:TLook) (x:RId),updT T (upd.filter fun u=>p u.1) x=if p x=true then updT T upd x else T x
 |[],T,x=>by simp[updT]
 |(i,o)::r,T,x=>by
  simp only[List.filter_cons];split
  ·rename_i hp;simp only[updT];rw[updT_filter p r];split
   ·rfl
   ·rename_i hx;have:i≠x:=by rintro rfl;exact hx hp
    simp[this]
  ·rename_i hp;rw[updT_filter p r];simp only[updT];split
   ·rename_i hx;have hne:i≠x:=by rintro rfl;exact hp hx
    exact updT_at (.inr (by simp[hne]))
   ·rfl
theorem slim_upd {T T':TLook} {upd:List (RId×TObj)} (h:∀x∈upd.map (·.1),T' x=T x):updT T' (slim T upd)=updT T' upd:=by
 funext x;unfold slim;rw[updT_filter (fun r=>!sameAt T upd r)];split
 ·rfl
 ·rename_i hx;simp only[Bool.not_eq_true',Bool.not_eq_false]at hx;by_cases hm:x∈upd.map (·.1)
  ·rw[h x hm,←sameAt_eq hx];exact updT_at (.inl hm)
  ·rw[znf7 hm]
def zrd7 (T:TLook):List TOut→List TOut
 |[]=>[]
 |out::r=>(out.1,slim T out.2)::zrd7 (updT T out.2) r
theorem slimAll_fst:∀(outs:List TOut) (T:TLook) (k:Nat),(outAt (zrd7 T outs) k).1=(outAt outs k).1
 |[],T,k=>by simp[zrd7,outAt]
 |out::r,T,0=>by simp[zrd7,outAt]
 |out::r,T,k+1=>by
  have:=slimAll_fst r (updT T out.2) k;simpa[zrd7,outAt]using this
theorem zcf7:∀(outs:List TOut) (T:TLook) (k:Nat),(outAt (zrd7 T outs) k).2=slim (rM outs every T k) (outAt outs k).2
 |[],T,k=>by simp[zrd7,outAt,slim]
 |out::r,T,0=>by simp[zrd7,outAt,rM]
 |out::r,T,k+1=>by
  have:=zcf7 r (updT T out.2) k;rw[rM_cons];simpa[zrd7,outAt]using this
theorem zqe7 (outs:List TOut) (T:TLook):∀k,rM (zrd7 T outs) every T k=rM outs every T k
 |0=>rfl
 |k+1=>by
  rw[rM,rM,zqe7 outs T k,zcf7];rw[slim_upd (fun _ _=>rfl)]
theorem slimAll_gM (aos:List AO) (outs:List TOut) (T:TLook) (g0:Nat→AVal):∀k,gM aos (zrd7 T outs) every g0 k=gM aos outs every g0 k
 |0=>rfl
 |k+1=>by
  funext t;rw[gM,gM,slimAll_gM aos outs T g0 k,slimAll_fst]
theorem slimAll_keys (outs:List TOut) (T:TLook) (k:Nat):zwc7 (zrd7 T outs) k=chgOf (rM outs every T k) (outAt outs k).2:=by
 unfold zwc7 chgOf;rw[zcf7]
theorem chgOf_sub {T:TLook} {upd:List (RId×TObj)} {x:RId} (hx:x∈chgOf T upd):x∈upd.map (·.1):=by
 obtain⟨u,h1,h2⟩:=List.mem_map.1 hx;exact List.mem_map.2 ⟨u,(List.mem_filter.1 h1).1,h2⟩
theorem meets_sub {a a' b b':List RId} (h:meets a b=false) (ha:∀x∈a',x∈a) (hb:∀x∈b',x∈b):meets a' b'=false:=by
 cases e:meets a' b' with
 |false=>rfl
 |true=>
  simp only[meets,List.any_eq_true]at e;obtain⟨x,h1,h2⟩:=e
  have:meets a b=true:=by
   simp only[meets,List.any_eq_true];exact⟨x,ha x h1,by simpa using hb x (by simpa using h2)⟩
  rw[h]at this;cases this
theorem pairK_apart {a b:LogE} (ha:∀x∈a.chg,x∈a.upd) (hb:∀x∈b.chg,x∈b.upd) (h:pairK a b (apart a b)=true):
  ((meets a.chg b.seen=false∧meets a.chg b.upd=false)∧meets a.seen b.chg=false)∧meets a.upd b.chg=false:=by
 cases e:apart a b with
 |false=>
  rw[e]at h;simpa[pairK,zyc7]using h
 |true=>
  simp only[apart,Bool.and_eq_true,Bool.not_eq_true']at e;obtain⟨⟨h1,h2⟩,h3⟩:=e;exact⟨⟨⟨meets_sub h1 ha fun _ h=>h,meets_sub h2 ha fun _ h=>h⟩,meets_sub h3 (fun _ h=>h) hb⟩,meets_sub h2 (fun _ h=>h) hb⟩
theorem maskOf_bit {acc:List Nat}:∀{l:List Nat} {j:Nat},(maskOf acc l).testBit j=true→∃e∈l,j=e∨(acc.getD e 0).testBit j=true
 |[],j,h=>by simp[maskOf]at h
 |e::r,j,h=>by
  simp only[maskOf,Nat.testBit_or,Bool.or_eq_true]at h;rcases h with (h|h)|h
  ·rw[Nat.testBit_two_pow]at h;exact⟨e,by simp,.inl (of_decide_eq_true h).symm⟩
  ·exact⟨e,by simp,.inr h⟩
  ·obtain⟨e',h1,h2⟩:=maskOf_bit h;exact⟨e',by simp[h1],h2⟩
theorem befs_spec:∀(ops:List Oper) (acc:List Nat),∃l,befs ops acc=acc++l∧l.length=ops.length∧
  ∀j o,ops[j]?=some o→(befs ops acc).getD (acc.length+j) 0=maskOf ((befs ops acc).take (acc.length+j)) (edges o)
 |[],acc=>⟨[],by simp[befs],rfl,by simp⟩
 |o::r,acc=>by
  obtain⟨l,h1,h2,h3⟩:=befs_spec r (acc++[maskOf acc (edges o)]);simp only[befs];refine⟨maskOf acc (edges o)::l,by rw[h1];simp,by simp[h2],fun j o' hj=>?_⟩;cases j with
  |zero=>
   simp at hj;subst hj;rw[h1];simp
  |succ j=>
   simp at hj;have:=h3 j o' hj;rw[show acc.length+(j+1)=(acc++[maskOf acc (edges o)]).length+j by simp;omega];exact this
theorem befs_closed {ops:List Oper} {D:Nat→Bool} (hD:∀i o,ops[i]?=some o→D i=true→∀e∈edges o,D e=true):∀(i:Nat) (o:Oper),ops[i]?=some o→(∀e∈edges o,D e=true)→
  ∀j,((befs ops []).getD i 0).testBit j=true→D j=true:=by
 intro i
 induction i using Nat.strongRecOn with
 |_ i ih=>
  intro o ho he j hj;obtain⟨l,h1,h2,h3⟩:=befs_spec ops [];have h4:=h3 i o ho;simp only[List.length_nil,Nat.zero_add]at h4;rw[h4]at hj;obtain⟨e,he1,he2⟩:=maskOf_bit hj;have hDe:=he e he1;rcases he2 with rfl|he2
  ·exact hDe
  ·by_cases hei:e<i
   ·have hbe:((befs ops []).take i).getD e 0=(befs ops []).getD e 0:=by
     simp[List.getD_eq_getElem?_getD,List.getElem?_take,hei]
    rw[hbe]at he2;have hlt:i<ops.length:=(List.getElem?_eq_some_iff.1 ho).1;have hoe:ops[e]?=some ops[e]:=by simp
    exact ih e hei ops[e] hoe (hD e _ hoe hDe) j he2
   ·have:((befs ops []).take i).getD e 0=0:=by
     simp only[List.getD_eq_getElem?_getD,List.getElem?_take,hei,if_false];rfl
    rw[this]at he2;simp at he2
theorem clashes_spec {aos:List AO} {bs:List Nat}:∀{n:Nat},clashes aos bs n=false→∀i j,i<j→j<n→((bs.getD j 0).testBit i=true)∨∀a b,aos[i]?=some a→aos[j]?=some b→zbf7 a b=false
 |0,_,i,j,_,h=>by omega
 |n+1,h,i,j,hij,hj=>by
  simp only[clashes,Bool.or_eq_false_iff]at h;by_cases e:j=n
  ·subst e;have:=h.2;rw[List.any_eq_false]at this;have h':=this i (by simpa using hij);cases hb:(bs.getD j 0).testBit i with
   |true=>exact .inl rfl
   |false=>
    right;intro a b ha hb';simp only[hb,ha,hb',Bool.not_false,Bool.true_and,Bool.not_eq_true]at h';exact h'
  ·exact clashes_spec h.1 i j hij (by omega)
theorem pairsOf_spec {ops:List Oper} {ks:List AK} {bs:List Nat}:∀{n:Nat} (i j:Nat),i<j→j<n→((bs.getD j 0).testBit i=true)∨(i,j)∈pairsOf ops ks bs n∨
  ∀a b,ks[i]?=some a→ks[j]?=some b→(a.kind=2→b.kind=0)∧(b.kind=2→a.kind=0)
 |0,i,j,_,h=>by omega
 |n+1,i,j,hij,hj=>by
  by_cases e:j=n
  ·subst e;cases hb:(bs.getD j 0).testBit i with
   |true=>exact .inl rfl
   |false=>
    right;cases ha:ks[i]? with
    |none=>exact .inr fun a b h _=>by cases h
    |some a=>
     cases hc:ks[j]? with
     |none=>exact .inr fun a b _ h=>by cases h
     |some b=>
      by_cases hq:((a.kind==2&&b.kind !=0)||(b.kind==2&&a.kind !=0))=true
      ·left;simp only[pairsOf,List.mem_append];right;rw[List.mem_filterMap];refine⟨i,by simpa using hij,?_⟩;simp only[hb,ha,hc,Bool.false_eq_true,if_false,hq,if_true]
      ·right;intro a' b' h1 h2;cases h1;cases h2;simp at hq;exact⟨fun h=>hq.1 h,fun h=>hq.2 h⟩
  ·rcases pairsOf_spec (ops:=ops) (ks:=ks) (bs:=bs) (n:=n) i j hij (by omega) with h|h|h
   ·exact .inl h
   ·exact .inr (.inl (by simp only[pairsOf,List.mem_append];exact .inl h))
   ·exact .inr (.inr h)
end Go.Am

namespace Go.Am
variable [Glob]
structure GoodF (B:Base) (C0 C:Ctx) (n:Nat) (g:Nat→AVal) (T:TLook) (a:Act):Prop where
 ρ:C.ρ=flat T
 inv:Inv B C
 env:RepE C g a
 size:a.tmps.size=n
 ext:Ext (fun i=>i) (fun id=>id.1.1=0) C0 C
 defers:a.defers=marks B.ds
 ds:B.dsOK C0
 le:C0.w.heap.size≤B.w.heap.size∧B.ds.Nodup
theorem Good.f {B:Base} {C0 C:Ctx} {n:Nat} {s:St} {a:Act} (h:Good B C0 C n s a):GoodF B C0 C n (gE s.env) (gT s.objs) a:=⟨h.ρ,h.inv,h.env,h.size,h.ext,h.defers,h.ds,h.le⟩
theorem GoodF.good {B:Base} {C0 C:Ctx} {n:Nat} {s:St} {a:Act} (h:GoodF B C0 C n (gE s.env) (gT s.objs) a):Good B C0 C n s a:=⟨h.ρ,h.inv,h.env,h.size,h.ext,h.defers,h.ds,h.le⟩
theorem cOpers_get {P:Program} {n:Nat} {ms:List (Nat×Mk)} {ops:List Oper}:∀{r:List Oper} {i:Nat} {l:List (AK×Option (Nat×Bool))},cOpers P n ms ops i r=some l→
  l.length=r.length∧∀j o,r[j]?=some o→∃k g,l[j]?=some (k,g)∧cOper P n ms ops (i+j) o=some (k,g)
 |[],i,l,h=>by
  simp only[cOpers,Option.some.injEq]at h;subst h;simp
 |o::r,i,l,h=>by
  simp only[cOpers]at h;split at h
  ·rename_i x l' h1 h2;simp only[Option.some.injEq]at h;subst h;obtain⟨e1,e2⟩:=cOpers_get h2;refine⟨by simp[e1],fun j o' hj=>?_⟩;cases j with
   |zero=>
    simp at hj;subst hj;exact⟨x.1,x.2,rfl,h1⟩
   |succ j=>
    simp at hj;obtain⟨k,g,e3,e4⟩:=e2 j o' hj;exact⟨k,g,by simpa using e3,by rw[show i+(j+1)=i+1+j by omega];exact e4⟩
  ·cases h
theorem aosOf_get {ps:List (Nat×Nat)}:∀{r:List Oper} {l:List (AK×Option (Nat×Bool))} {i:Nat},l.length=r.length→
  (aosOf ps i r l).length=r.length∧∀(j:Nat) (o:Oper) (k:AK) (g:Option (Nat×Bool)),r[j]?=some o→l[j]?=some (k,g)→(aosOf ps i r l)[j]?=some (⟨o.dst,k,g,ps.any fun p=>p.1==i+j||p.2==i+j⟩:AO)
 |[],l,i,h=>by cases l<;>simp[aosOf]
 |o::r,[],i,h=>by simp at h
 |o::r,(k,g)::l,i,h=>by
  obtain⟨e1,e2⟩:=aosOf_get (ps:=ps) (r:=r) (l:=l) (i:=i+1) (by simpa using h);refine⟨by simp[aosOf,e1],fun j o' k' g' h1 h2=>?_⟩;cases j with
  |zero=>
   simp at h1 h2;obtain⟨rfl,rfl⟩:=h2;subst h1;simp[aosOf]
  |succ j=>
   simp at h1 h2;have:=e2 j o' k' g' h1 h2;simp only[aosOf,List.getElem?_cons_succ];rw[this,show i+1+j=i+(j+1) by omega]
section
variable {P:Program} {B:Base} {C0:Ctx} {K:Orc} {n:Nat} {rd:Option Nat}
theorem wpOp_good (hS:zae7 P K) {ops:Array Oper} {Q:Exit→Act→World→Prop} {i:Nat} {o:Oper} (hi:ops[i]?=some o) {ms:List (Nat×Mk)} {k:AK} {gd:Option (Nat×Bool)} (hc:cOper P n ms ops.toList i o=some (k,gd)) {lg:Bool}
  {C:Ctx} {g:Nat→AVal} {ρ:TLook} {a:Act} (h:GoodF B C0 C n g ρ a) {out:TOut} (ho:aoE K ⟨o.dst,k,gd,lg⟩ g ρ=some out) {next:Act→World→Prop}
  (hnext:∀a' C',GoodF B C0 C' n (fun t=>if o.dst=some t then out.1 else g t) (updT ρ out.2) a'→next a' C'.w):
  wpOpIn (fR rd) 0 P ops Q i next a C.w:=by
 refine wpOp_sound hS hi hc h.inv h.ρ h.env h.size ho fun val C' e1 e2 e3 e4 e5=>?_
 refine hnext _ C' ⟨e1,e2,e4,e5,h.ext.thenGrow e3,?_,h.ds,h.le⟩;have:=h.defers;cases o.dst<;>simpa[Act.put]using this
theorem seq_sound (hS:zae7 P K) {ops:Array Oper} {Q:Exit→Act→World→Prop} {ms:List (Nat×Mk)} {l:List (AK×Option (Nat×Bool))} (hl:cOpers P n ms ops.toList 0 ops.toList=some l) {ps:List (Nat×Nat)}:
  ∀(m i:Nat) (s:St) (lg:Log) (s':St) (lg':Log) (C:Ctx) (a:Act),i+m=ops.size→zhd7 K i ((aosOf ps 0 ops.toList l).drop i) s lg=some (s',lg')→GoodF B C0 C n (gE s.env) (gT s.objs) a→
   (∀a' C',GoodF B C0 C' n (gE s'.env) (gT s'.objs) a'→Q .normal a' C'.w)→wpOpsIn (fR rd) 0 P ops Q (List.range' i m) a C.w:=by
 obtain⟨hlen,hget⟩:=cOpers_get hl;obtain⟨alen,aget⟩:=aosOf_get (ps:=ps) (i:=0) hlen;intro m
 induction m with
 |zero=>
  intro i s lg s' lg' C a hi h hG hQ;rw[List.drop_of_length_le (by rw[alen];simp;omega)]at h;simp only[zhd7,Option.some.injEq,Prod.mk.injEq]at h;obtain⟨rfl,rfl⟩:=h;simp only[List.range'_zero,wpOpsIn];exact hQ a C hG
 |succ m ih=>
  intro i s lg s' lg' C a hi h hG hQ;have hlt:i<ops.size:=by omega
  have ho:ops[i]?=some ops[i]:=by simp[hlt]
  have ho':ops.toList[i]?=some ops[i]:=by simp[hlt]
  obtain⟨k,g,e1,e2⟩:=hget i _ ho';rw[Nat.zero_add]at e2;have ea:=aget i _ k g ho' e1
  have hd:(aosOf ps 0 ops.toList l).drop i=⟨ops[i].dst,k,g,ps.any fun p=>p.1==0+i||p.2==0+i⟩::(aosOf ps 0 ops.toList l).drop (i+1):=by
   have hl2:i<(aosOf ps 0 ops.toList l).length:=by rw[alen];simpa using hlt
   rw[List.drop_eq_getElem_cons hl2]
   congr 1
   rw[List.getElem?_eq_getElem hl2]at ea;exact Option.some.inj ea
  rw[hd]at h;simp only[zhd7]at h;split at h
  ·cases h
  ·rename_i out hout;rw[List.range'_succ,wpOpsIn_cons];refine wpOp_good hS ho e2 hG hout fun a' C' hG'=>?_
   refine ih (i+1) _ _ _ _ C' a' (by omega) h ?_ hQ
   have eg:gE (putE s.env ops[i].dst out.1)=fun t=>if ops[i].dst=some t then out.1 else gE s.env t:=by
    funext t;exact gE_putE _ _ _ _
   simp only[eg,gT_pTs];exact hG'
theorem countP_lt_of {α:Type} {p q:α→Bool} (h:∀x,q x=true→p x=true):∀{l:List α} {x:α},x∈l→p x=true→q x=false→l.countP q<l.countP p
 |y::r,x,hx,hp,hq=>by
  have hle:r.countP q≤r.countP p:=by
   clear hx
   induction r with
   |nil=>simp
   |cons z r ih=>
    simp only[List.countP_cons];have:=h z;cases hz:q z<;>cases hz':p z<;>simp_all<;>omega
  simp only[List.countP_cons];cases hx with
  |head=>simp[hp,hq];omega
  |tail _ hx=>
   have:=countP_lt_of h hx hp hq;have:=h y;cases hz:q y<;>cases hz':p y<;>simp_all<;>omega
theorem meets_mem {a b:List RId} {x:RId} (ha:x∈a) (hb:x∈b):meets a b=true:=by
 simp only[meets,List.any_eq_true];exact⟨x,ha,by simpa using hb⟩
theorem aoE_quiet {o:AO} {g:Nat→AVal} {ρ:TLook} {out:TOut} (h:aoE K o g ρ=some out) (hk:o.k.kind≠2):out.2=[]:=by
 unfold aoE at h;split at h
 ·exact opT_quiet K _ h hk
 ·split at h
  ·split at h
   ·exact opT_quiet K _ h hk
   ·cases h;rfl
  ·cases h;rfl
  ·cases h
theorem aoE_frame {o:AO} {g g':Nat→AVal} {ρ ρ':TLook} {out:TOut} (h:aoE K o g ρ=some out) (hs:∀t∈o.seen,g' t=g t) (hρ:o.k.kind≠0→∀i,i∈zie7 o.k g ρ∨i∈out.2.map (·.1)→ρ' i=ρ i):aoE K o g' ρ'=some out:=by
 have hop:opT K (o.dst.getD 0) o.k g ρ=some out→opT K (o.dst.getD 0) o.k g' ρ'=some out:=by
  intro h;rw[opT_slots K _ ρ' (fun t ht=>hs t (List.mem_append.2 (.inl ht)))];by_cases hk:o.k.kind=0
  ·rw[opT_blind K _ hk];exact h
  ·exact opT_objs K _ h (hρ hk)
 unfold aoE at h ⊢;cases hg:o.guard with
 |none=>rw[hg]at h;exact hop h
 |some tw=>
  obtain⟨t,want⟩:=tw;rw[hg]at h;simp only at h ⊢;rw[hs t (by simp[AO.seen,hg])];split at h
  ·rename_i b hb;split at h
   ·rename_i hbw;rw[if_pos hbw];exact hop h
   ·rename_i hbw;rw[if_neg hbw];exact h
  ·exact h
  ·cases h
theorem edgesOk_spec:∀{r:List Oper} {i:Nat},edgesOk i r=true→∀j o,r[j]?=some o→∀e∈edges o,e<i+j
 |[],i,h,j,o,ho=>by simp at ho
 |o::r,i,h,j,o',ho=>by
  simp only[edgesOk,Bool.and_eq_true,List.all_eq_true,decide_eq_true_eq]at h;cases j with
  |zero=>
   simp at ho;subst ho;simpa using h.1
  |succ j=>
   simp at ho;have:=edgesOk_spec h.2 j o' ho;intro e he;have:=this e he;omega
structure Drawn (K:Orc) (P:Program) (n:Nat) (ms:List (Nat×Mk)) (ops:Array Oper) (aos:List AO) (outs fulls:List TOut) (g0:Nat→AVal) (ρ0:TLook):Prop where
 len:aos.length=ops.size
 ao:∀i o,ops[i]?=some o→∃k gd lg,aos[i]?=some ⟨o.dst,k,gd,lg⟩∧cOper P n ms ops.toList i o=some (k,gd)
 run:∀j o,aos[j]?=some o→aoE K o (gM aos outs every g0 j) (rM outs every ρ0 j)=some (outAt fulls j)
 val:∀j,(outAt outs j).1=(outAt fulls j).1
 upd:∀j T',(∀x∈zwc7 fulls j,T' x=rM outs every ρ0 j x)→updT T' (outAt outs j).2=updT T' (outAt fulls j).2
 sub:∀j x,x∈zwc7 outs j→x∈zwc7 fulls j
 edge:∀i o,ops[i]?=some o→∀e∈edges o,e<i
 slot:∀i j,i<j→j<ops.size→((befs ops.toList []).getD j 0).testBit i=true∨∀a b,aos[i]?=some a→aos[j]?=some b→zbf7 a b=false
 objs:∀i j,i<j→j<ops.size→((befs ops.toList []).getD j 0).testBit i=true∨∀a b,aos[i]?=some a→aos[j]?=some b→
  ((a.k.kind=2→b.k.kind=0)∧(b.k.kind=2→a.k.kind=0))∨
  (∀x,(x∈zie7 a.k (gM aos outs every g0 i) (rM outs every ρ0 i)∨x∈zwc7 fulls i)→x∈zwc7 outs j→False)∧
  (∀x,(x∈zie7 b.k (gM aos outs every g0 j) (rM outs every ρ0 j)∨x∈zwc7 fulls j)→x∈zwc7 outs i→False)
section
variable {ms:List (Nat×Mk)} {ops:Array Oper} {aos:List AO} {outs fulls:List TOut} {g0:Nat→AVal} {ρ0:TLook} {D:Nat→Bool}
theorem Drawn.dst (H:Drawn K P n ms ops aos outs fulls g0 ρ0) {i:Nat} {o:Oper} (ho:ops[i]?=some o):dstAt aos i=o.dst:=by
 obtain⟨k,gd,lg,h,_⟩:=H.ao i o ho;simp[dstAt,h]
theorem Drawn.before (H:Drawn K P n ms ops aos outs fulls g0 ρ0) (hD:∀i o,ops[i]?=some o→D i=true→∀e∈edges o,D e=true) {i:Nat} {o:Oper} (ho:ops[i]?=some o) (he:∀e∈edges o,D e=true) {j:Nat}
  (hj:((befs ops.toList []).getD i 0).testBit j=true):D j=true:=
 befs_closed (ops:=ops.toList) (D:=D) (fun i o h=>hD i o (by simpa using h)) i o (by simpa using ho) he j hj
theorem Drawn.sees (H:Drawn K P n ms ops aos outs fulls g0 ρ0) (hD:∀i o,ops[i]?=some o→D i=true→∀e∈edges o,D e=true) {i:Nat} {o:Oper} (ho:ops[i]?=some o) (he:∀e∈edges o,D e=true) (hi:D i=false)
  {a:AO} (ha:aos[i]?=some a) {t:Nat} (ht:t∈a.seen):gM aos outs D g0 ops.size t=gM aos outs every g0 i t:=by
 have hlt:i<ops.size:=(Array.getElem?_eq_some_iff.1 ho).1;refine gM_agree (fun k hk hd=>?_) ops.size (Nat.le_of_lt hlt) fun k hk hk' hd=>?_
 ·rcases H.slot k i hk hlt with h|h
  ·exact H.before hD ho he h
  ·obtain⟨b,hb⟩:∃b,aos[k]?=some b:=⟨aos[k]'(by rw[H.len];omega),by simp⟩;have:=h b a hb ha;simp only[dstAt,hb,Option.bind_some]at hd;simp[zbf7,hd]at this;exact absurd ht this.1.1
 ·by_cases e:k=i
  ·subst e;exact hi
  ·rcases H.slot i k (by omega) hk' with h|h
   ·cases hDk:D k with
    |false=>rfl
    |true=>
     have hok:ops[k]?=some ops[k]:=by simp[hk']
     have:=H.before hD hok (hD k _ hok hDk) h;rw[hi]at this;cases this
   ·obtain⟨b,hb⟩:∃b,aos[k]?=some b:=⟨aos[k]'(by rw[H.len];omega),by simp⟩;have:=h a b ha hb;simp only[dstAt,hb,Option.bind_some]at hd;simp[zbf7,hd]at this;exact absurd ht this.2
theorem Drawn.quiet (H:Drawn K P n ms ops aos outs fulls g0 ρ0) {k:Nat} {b:AO} (hb:aos[k]?=some b) (hk:b.k.kind≠2):zwc7 outs k=[]:=by
 have h:=aoE_quiet (H.run k b hb) hk;rw[List.eq_nil_iff_forall_not_mem];intro x hx;have:=H.sub k x hx;simp[zwc7,h]at this
theorem Drawn.meets (H:Drawn K P n ms ops aos outs fulls g0 ρ0) (hD:∀i o,ops[i]?=some o→D i=true→∀e∈edges o,D e=true) {i:Nat} {o:Oper} (ho:ops[i]?=some o) (he:∀e∈edges o,D e=true) (hi:D i=false)
  {a:AO} (ha:aos[i]?=some a) {x:RId} (hk0:a.k.kind≠0) (hx:x∈zie7 a.k (gM aos outs every g0 i) (rM outs every ρ0 i)∨x∈zwc7 fulls i):
  (∀k,k<i→x∈zwc7 outs k→D k=true)∧(∀k,i≤k→k<ops.size→x∈zwc7 outs k→D k=false):=by
 have hlt:i<ops.size:=(Array.getElem?_eq_some_iff.1 ho).1;refine⟨fun k hk hd=>?_,fun k hk hk' hd=>?_⟩
 ·rcases H.objs k i hk hlt with h|h
  ·exact H.before hD ho he h
  ·obtain⟨b,hb⟩:∃b,aos[k]?=some b:=⟨aos[k]'(by rw[H.len];omega),by simp⟩;rcases h b a hb ha with h|h
   ·by_cases hb2:b.k.kind=2
    ·exact absurd (h.1 hb2) hk0
    ·rw[H.quiet hb hb2]at hd;cases hd
   ·exact (h.2 x hx hd).elim
 ·by_cases e:k=i
  ·subst e;exact hi
  ·rcases H.objs i k (by omega) hk' with h|h
   ·cases hDk:D k with
    |false=>rfl
    |true=>
     have hok:ops[k]?=some ops[k]:=by simp[hk']
     have:=H.before hD hok (hD k _ hok hDk) h;rw[hi]at this;cases this
   ·obtain⟨b,hb⟩:∃b,aos[k]?=some b:=⟨aos[k]'(by rw[H.len];omega),by simp⟩;rcases h a b ha hb with h|h
    ·by_cases hb2:b.k.kind=2
     ·exact absurd (h.2 hb2) hk0
     ·rw[H.quiet hb hb2]at hd;cases hd
    ·exact (h.1 x hx hd).elim
theorem Drawn.answers (H:Drawn K P n ms ops aos outs fulls g0 ρ0) (hD:∀i o,ops[i]?=some o→D i=true→∀e∈edges o,D e=true) {i:Nat} {o:Oper} (ho:ops[i]?=some o) (he:∀e∈edges o,D e=true) (hi:D i=false)
  {a:AO} (ha:aos[i]?=some a):aoE K a (gM aos outs D g0 ops.size) (rM outs D ρ0 ops.size)=some (outAt fulls i):=by
 have hlt:i<ops.size:=(Array.getElem?_eq_some_iff.1 ho).1;refine aoE_frame (H.run i a ha) (fun t ht=>H.sees hD ho he hi ha ht) fun hk x hx=>?_
 obtain⟨h1,h2⟩:=H.meets hD ho he hi ha hk hx;exact rM_agree h1 ops.size (Nat.le_of_lt hlt) h2
theorem Drawn.same (H:Drawn K P n ms ops aos outs fulls g0 ρ0) (hD:∀i o,ops[i]?=some o→D i=true→∀e∈edges o,D e=true) {i:Nat} {o:Oper} (ho:ops[i]?=some o) (he:∀e∈edges o,D e=true) (hi:D i=false)
  {a:AO} (ha:aos[i]?=some a):updT (rM outs D ρ0 ops.size) (outAt outs i).2=updT (rM outs D ρ0 ops.size) (outAt fulls i).2:=by
 have hlt:i<ops.size:=(Array.getElem?_eq_some_iff.1 ho).1;refine H.upd i _ fun x hx=>?_
 by_cases hk:a.k.kind=0
 ·have h:=aoE_quiet (H.run i a ha) (by omega);simp[zwc7,h]at hx
 ·obtain⟨h1,h2⟩:=H.meets hD ho he hi ha hk (.inr hx);exact rM_agree h1 ops.size (Nat.le_of_lt hlt) h2
theorem Drawn.adds (H:Drawn K P n ms ops aos outs fulls g0 ρ0) (hD:∀i o,ops[i]?=some o→D i=true→∀e∈edges o,D e=true) {i:Nat} {o:Oper} (ho:ops[i]?=some o) (he:∀e∈edges o,D e=true) (hi:D i=false):
  gM aos outs (addD D i) g0 ops.size=(fun t=>if o.dst=some t then (outAt outs i).1 else gM aos outs D g0 ops.size t)∧rM outs (addD D i) ρ0 ops.size=updT (rM outs D ρ0 ops.size) (outAt outs i).2:=by
 have hlt:i<ops.size:=(Array.getElem?_eq_some_iff.1 ho).1;obtain⟨k0,gd,lg,ha,hc⟩:=H.ao i o ho;refine⟨?_,?_⟩
 ·funext t;rw[gM_add hi t ops.size hlt,H.dst ho];intro k hk hk' hdi hdk;rcases H.slot i k hk hk' with h|h
  ·cases hDk:D k with
   |false=>rfl
   |true=>
    have hok:ops[k]?=some ops[k]:=by simp[hk']
    have:=H.before hD hok (hD k _ hok hDk) h;rw[hi]at this;cases this
  ·obtain⟨b,hb⟩:∃b,aos[k]?=some b:=⟨aos[k]'(by rw[H.len];omega),by simp⟩;have:=h _ b ha hb;rw[H.dst ho]at hdi;simp only[dstAt,hb,Option.bind_some]at hdk;simp[zbf7,hdi,hdk]at this
 ·funext x;refine rM_add hi x ops.size hlt fun k hk hk' hxi hxk=>?_
  have hk0:k0.kind≠0:=by
   intro h0;have:=H.quiet ha (by simp[h0]);rw[this]at hxi;cases hxi
  exact (H.meets hD ho he hi ha hk0 (.inr (H.sub i x hxi))).2 k (Nat.le_of_lt hk) hk' hxk
theorem mem_edges {o:Oper} {e:Nat}:e∈edges o↔∃x∈o.after,Region.binds .any x=true∧x.on=e:=by
 unfold edges;simp only[List.mem_filterMap,Array.mem_toList_iff];constructor
 ·rintro⟨x,h1,h2⟩;split at h2
  ·rename_i hb;exact⟨x,h1,hb,by simpa using h2⟩
  ·cases h2
 ·rintro⟨x,h1,h2,h3⟩;exact⟨x,h1,by rw[if_pos h2,h3]⟩
theorem any_sound (hS:zae7 P K) (H:Drawn K P n ms ops aos outs fulls g0 ρ0) {Q:Exit→Act→World→Prop} (hQ:∀a' C',GoodF B C0 C' n (gM aos outs every g0 ops.size) (rM outs every ρ0 ops.size) a'→Q .normal a' C'.w):
  ∀(fuel:Nat) (listed:Array Bool) (a:Act) (C:Ctx),listed.size=ops.size→
   (∀i o,ops[i]?=some o→listed.getD i false=true→∀e∈edges o,listed.getD e false=true)→
   GoodF B C0 C n (gM aos outs (fun i=>listed.getD i false) g0 ops.size) (rM outs (fun i=>listed.getD i false) ρ0 ops.size) a→
   (List.range ops.size).countP (fun i=>!listed.getD i false)≤fuel→wpAnyIn (fR rd) 0 P .any ops Q fuel listed a C.w:=by
 intro fuel
 have tf:∀(listed:Array Bool) (i:Nat),listed.size=ops.size→i<ops.size→listed.getD i true=listed.getD i false:=by
  intro listed i hs hi;have:i<listed.size:=by omega
  simp[Array.getD,this]
 have done:∀(listed:Array Bool) (a:Act) (C:Ctx),listed.size=ops.size→Region.ready .any ops listed=[]→
   GoodF B C0 C n (gM aos outs (fun i=>listed.getD i false) g0 ops.size) (rM outs (fun i=>listed.getD i false) ρ0 ops.size) a→Q .normal a C.w:=by
  intro listed a C hs hr hG
  have all:∀i,i<ops.size→listed.getD i false=true:=by
   intro i
   induction i using Nat.strongRecOn with
   |_ i ih=>
    intro hi;cases hf:listed.getD i false with
    |true=>rfl
    |false=>
     have:i∈Region.ready .any ops listed:=by
      rw[mem_ready];have hok:ops[i]?=some ops[i]:=by simp[hi]
      refine⟨by rw[tf listed i hs hi,hf],ops[i],hok,fun e he hb=>?_⟩;have:=H.edge i _ hok e.on (mem_edges.2 ⟨e,he,hb,rfl⟩);exact ih e.on this (by omega)
     rw[hr]at this;cases this
  have e1:gM aos outs (fun i=>listed.getD i false) g0 ops.size=gM aos outs every g0 ops.size:=by
   funext t;exact gM_agree (fun k hk _=>all k hk) ops.size (Nat.le_refl _) (fun k h1 h2 _=>by omega)
  have e2:rM outs (fun i=>listed.getD i false) ρ0 ops.size=rM outs every ρ0 ops.size:=by
   funext t;exact rM_agree (fun k hk _=>all k hk) ops.size (Nat.le_refl _) (fun k h1 h2 _=>by omega)
  rw[e1,e2]at hG;exact hQ a C hG
 induction fuel with
 |zero=>
  intro listed a C hs hD hG hc
  have hr:Region.ready .any ops listed=[]:=by
   rw[List.eq_nil_iff_forall_not_mem];intro j hj;obtain⟨h0,o,ho,_⟩:=mem_ready.1 hj;have hlt:j<ops.size:=(Array.getElem?_eq_some_iff.1 ho).1;rw[tf listed j hs hlt]at h0
   have:0<(List.range ops.size).countP (fun i=>!listed.getD i false):=by
    rw[List.countP_pos_iff];exact⟨j,by simpa using hlt,by simp only[h0,Bool.not_false]⟩
   omega
  exact⟨hr,done listed a C hs hr hG⟩
 |succ fuel ih=>
  intro listed a C hs hD hG hc;refine⟨fun hr=>done listed a C hs hr hG,fun i hi=>?_⟩;obtain⟨h0,o,ho,hall⟩:=mem_ready.1 hi;have hlt:i<ops.size:=(Array.getElem?_eq_some_iff.1 ho).1;rw[tf listed i hs hlt]at h0
  have he:∀e∈edges o,listed.getD e false=true:=by
   intro e hee;obtain⟨x,h1,h2,rfl⟩:=mem_edges.1 hee;exact hall x h1 h2
  obtain⟨k,gd,lg,ha,hco⟩:=H.ao i o ho;have hans:=H.answers (D:=fun i=>listed.getD i false) hD ho he h0 ha;obtain⟨ag,ar⟩:=H.adds (D:=fun i=>listed.getD i false) hD ho he h0;refine wpOp_good hS ho hco hG hans fun a' C' hG'=>?_
  rw[←H.val i,←H.same (D:=fun i=>listed.getD i false) hD ho he h0 ha,←ag,←ar]at hG'
  have hset:addD (fun i=>listed.getD i false) i=fun j=>(listed.setIfInBounds i true).getD j false:=by
   funext j;by_cases e:j=i
   ·subst e;have:j<listed.size:=by omega
    simp[addD,this]
   ·have:=getD_set_ne (listed:=listed) (i:=i) (j:=j) false (fun x=>e x.symm);rw[this];simp[addD,e]
  rw[hset]at hG';refine ih (listed.setIfInBounds i true) a' C' (by simpa using hs) ?_ hG' ?_
  ·intro j o' ho' hj e hee;refine getD_set_true ?_;by_cases hji:j=i
   ·subst hji;rw[ho]at ho';cases ho';exact he e hee
   ·rw[getD_set_ne false (fun x=>hji x.symm)]at hj;exact hD j o' ho' hj e hee
  ·have:=countP_lt_of (p:=fun j=>!listed.getD j false) (q:=fun j=>!(listed.setIfInBounds i true).getD j false) (l:=List.range ops.size) (x:=i)
    (fun j hj=>by
     cases hl:listed.getD j false with
     |false=>rfl
     |true=>
      have:=getD_set_true (i:=i) hl;simp only[this]at hj;cases hj) (by simpa using hlt) (by simp only[h0,Bool.not_false]) (by
     have:i<listed.size:=by omega
     simp[this])
   omega
end
end
end Go.Am
