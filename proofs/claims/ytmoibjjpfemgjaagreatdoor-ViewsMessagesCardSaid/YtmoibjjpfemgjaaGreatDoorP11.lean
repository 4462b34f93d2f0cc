/- Parts of the proofs of the statement, joined and made short: AmT1m AmT2. -/
import Derived.Test.YtmoibjjpfemgjaaGreatDoorP10
set_option linter.unusedVariables false
set_option linter.unusedSimpArgs false
set_option linter.unusedSectionVars false
namespace Go.Am
variable [Glob]
theorem znb7 (r:RId) (pv:Nat):∀(k:Nat) (es:List (Dat×Cell)),(entsA r pv k es).length=es.length
 |_,[]=>rfl
 |k,_::es=>by simp[entsA,znb7 r pv (k+1) es]
theorem entsA_get (r:RId) (pv:Nat):∀(k:Nat) (es:List (Dat×Cell)) (i:Nat),(entsA r pv k es)[i]?=(es[i]?).map fun e=>(e.1,cellA r pv (k+i) e.2)
 |_,[],i=>by simp[entsA]
 |k,e::es,0=>by simp[entsA]
 |k,e::es,i+1=>by simp[entsA,entsA_get r pv (k+1) es i,Nat.add_assoc,Nat.add_comm 1]
theorem flatM_root {T:TLook} {r:RId} {pv:Nat} {es:List (Dat×Cell)} (h:T r=some (.mapf pv es)):flat T (r,0,0)=some (.blk (.map (entsA r pv 0 es))):=by simp[flat,h,flatR]
theorem zme7 {T:TLook} {r:RId} {pv:Nat} {es:List (Dat×Cell)} (h:T r=some (.mapf pv es)) (i:Nat):flat T (r,i+1,0)=some (kidO pv (es[i]?.map (·.2))):=by simp[flat,h,flatR]
theorem flatM_odd {T:TLook} {r:RId} {x y:Nat} (h:∃pv es,T r=some (.mapf pv es)) (hy:y≠0):flat T (r,x,y)=none:=by
 obtain⟨pv,es,h⟩:=h;simp[flat,h,flatR,hy]
structure MovedM (C:Ctx) (T':TLook) (r:RId) (cells:List (Dat×Cell)) (es:List (Dat×AVal)) (i:Nat) (r2:RId):Prop where
 ne:r2≠r
 src:∃sz v l k,C.ρ (r2,0,0)=some (.arr sz v false l)∧T' r2=some (.plain (.arr sz (v+1) true []))∧cells[i]?=some (k,.own true false sz l)∧es[i]?=some (k,.rsl (r2,0,0) v sz 0 l.length)
 odd:∀p,p≠(0,0)→C.ρ (r2,p)=none
theorem mapf_step {B:Base} {C:Ctx} {T':TLook} (h:Inv B C) (r:RId) {pv:Nat} {cells:List (Dat×Cell)} {es:List (Dat×AVal)} (mv:Option (Nat×RId))
  (hT:T' r=some (.mapf pv cells)) (hroot:C.ρ (r,0,0)=some (.blk (.map es))) (hlen:es.length=cells.length)
  (hk:∀j ob,C.ρ (r,j+1,0)=some ob→∃sz v fz l,ob=.arr sz v fz l∧(v<pv∨((∀r2,mv≠some (j,r2))∧ob=kidO pv (cells[j]?.map (·.2)))))
  (hz:∀x y,y≠0→C.ρ (r,x,y)=none)
  (ho:∀id:Id,id.1≠r→(∀i,mv≠some (i,id.1))→flat T' id=C.ρ id)
  (hm:∀i r2,mv=some (i,r2)→MovedM C T' r cells es i r2)
  (hc:∀j k c,cells[j]?=some (k,c)→(∃r2,mv=some (j,r2))∨∃a,es[j]?=some (k,a)∧CellSt C r j a c):
  ∃C':Ctx,C'.w=C.w∧C'.F=C.F∧C'.ρ=flat T'∧Inv B C'∧Grow C C':=by
 let σ:Id→Id:=movS r mv
 let C':Ctx:={ w:=C.w,F:=C.F,μ:=fun id=>C.μ (movS r mv id),ρ:=flat T' }
 have hμσ:∀id,C'.μ id=C.μ (σ id):=fun id=>rfl
 have hσid:∀id,(∀i r2,mv=some (i,r2)→id≠(r,i+1,0))→σ id=id:=by
  intro id hid;simp only[σ,movS];split
  ·rename_i i r2;exact if_neg (hid i r2 rfl)
  ·rfl
 have hμ:∀id,(∀i r2,mv=some (i,r2)→id≠(r,i+1,0))→C'.μ id=C.μ id:=fun id hid=>by rw[hμσ,hσid id hid]
 have hroot':C'.ρ (r,0,0)=some (.blk (.map (entsA r pv 0 cells))):=by simp only[C'];rw[flatM_root hT]
 have hkid':∀j,C'.ρ (r,j+1,0)=some (kidO pv (cells[j]?.map (·.2))):=fun j=>zme7 hT j
 have hodd':∀x y,y≠0→C'.ρ (r,x,y)=none:=fun x y hy=>flatM_odd ⟨_,_,hT⟩ hy
 have hrne:∀i r2,mv=some (i,r2)→(r,0,0)≠((r,i+1,0):Id):=fun i r2 _ e=>by simp at e
 have hother:∀id:Id,id.1≠r→∀i r2,mv=some (i,r2)→id≠(r,i+1,0):=fun id hid i r2 _ e=>hid (by rw[e])
 have hblkR:∀id x,id.1=r→id≠(r,0,0)→C.ρ id≠some (.blk x):=by
  intro id x e1 hne hb;obtain⟨r',x,y⟩:=id;simp only at e1;subst e1;by_cases hy:y=0
  ·subst hy;cases x with
   |zero=>exact hne rfl
   |succ j=>
    obtain⟨sz,v,fz,l,q,_⟩:=hk j _ hb;cases q
  ·rw[hz x y hy]at hb;cases hb
 have hblkR':∀id x,id.1=r→id≠(r,0,0)→C'.ρ id≠some (.blk x):=by
  intro id x e1 hne hb;obtain⟨r',x,y⟩:=id;simp only at e1;subst e1;by_cases hy:y=0
  ·subst hy;cases x with
   |zero=>exact hne rfl
   |succ j=>
    obtain⟨sz,fz,l,q⟩:=zhc7 pv (cells[j]?.map (·.2));rw[hkid' j,q]at hb;cases hb
  ·rw[hodd' x y hy]at hb;cases hb
 have hblkM:∀id x,(∃i,mv=some (i,id.1))→C.ρ id≠some (.blk x)∧C'.ρ id≠some (.blk x):=by
  rintro⟨r',p⟩ x ⟨i,e2⟩;obtain⟨_,⟨sz,v,l,_,q1,q3,_⟩,q2⟩:=hm i r' e2;by_cases hp:p=(0,0)
  ·subst hp;refine⟨by rw[q1];simp,?_⟩;simp only[C'];rw[zxa7 q3];simp
  ·refine⟨by rw[q2 p hp];simp,?_⟩;simp only[C',flat,q3,flatR];split<;>simp
 have hblkO:∀id x,C'.ρ id=some (.blk x)→∃x1,C.ρ id=some (.blk x1)∧C'.μ id=C.μ id:=by
  intro id x hx;by_cases e0:id=(r,0,0)
  ·subst e0;exact⟨_,hroot,hμ _ hrne⟩
  have e1:id.1≠r:=fun e=>hblkR' id x e e0 hx
  have e2:∀i,mv≠some (i,id.1):=fun i e=>(hblkM id x ⟨i,e⟩).2 hx
  refine⟨x,?_,hμ id (hother id e1)⟩;rw[←ho id e1 e2];exact hx
 have hg:Grow C C':=by
  refine⟨fun _ _ _ h=>h,fun id L _ hb=>?_,fun id A _ ha=>?_,fun id b _ hb=>?_⟩;rotate_left 2
  ·obtain⟨x,hx,rfl⟩:∃x,C.ρ id=some (.blk x)∧b=(C.μ id).b:=by
    unfold blkAt at hb;split at hb
    ·rename_i x hx;exact⟨x,hx,by simpa using hb.symm⟩
    ·cases hb
   by_cases e0:id=(r,0,0)
   ·subst e0;unfold blkAt;rw[hroot',hμ _ hrne]
   have e1:id.1≠r:=fun e=>hblkR id x e e0 hx
   have e2:∀i,mv≠some (i,id.1):=fun i e=>(hblkM id x ⟨i,e⟩).1 hx
   have:=ho id e1 e2;unfold blkAt;have hx':C'.ρ id=some (.blk x):=by simp only[C'];rw[this,hx]
   rw[hx',hμ id (hother id e1)]
  ·by_cases e1:id.1=r
   ·exfalso;obtain⟨r',x,y⟩:=id;simp only at e1;subst e1;unfold boxAt at hb;by_cases hy:y=0
    ·subst hy;cases x with
     |zero=>rw[hroot]at hb;simp at hb
     |succ j=>
      cases e:C.ρ (r',j+1,0) with
      |none=>rw[e]at hb;simp at hb
      |some ob=>
       obtain⟨sz,v,fz,l,q,_⟩:=hk j ob e;rw[e,q]at hb;simp at hb
    ·rw[hz x y hy]at hb;simp at hb
   ·by_cases e2:∃i,mv=some (i,id.1)
    ·exfalso;obtain⟨i,e2⟩:=e2;obtain⟨_,⟨sz,v,l,_,q1,_⟩,q2⟩:=hm i id.1 e2;obtain⟨r',p⟩:=id;unfold boxAt at hb;by_cases hp:p=(0,0)
     ·subst hp;rw[q1]at hb;simp at hb
     ·rw[q2 p hp]at hb;simp at hb
    ·have:=ho id e1 (fun i hi=>e2 ⟨i,hi⟩);unfold boxAt at hb ⊢;simp only[C']at *
     rw[this,hμ id (hother id e1)];exact hb
  ·by_cases e1:id.1=r
   ·obtain⟨r',x,y⟩:=id;simp only at e1;subst e1;by_cases hy:y=0
    ·subst hy;cases x with
     |zero=>unfold arrAt at ha;rw[hroot]at ha;simp at ha
     |succ j=>
      cases e:C.ρ (r',j+1,0) with
      |none=>unfold arrAt at ha;rw[e]at ha;simp at ha
      |some ob=>
       obtain⟨sz,v,fz,l,q,q'⟩:=hk j ob e;obtain⟨sz',fz',l',q2⟩:=zhc7 pv (cells[j]?.map (·.2))
       have hA:A=⟨v,sz,l.length,C.μ (r',j+1,0)⟩:=by
        unfold arrAt at ha;rw[e,q]at ha;simpa using ha.symm
       refine⟨⟨pv,sz',l'.length,C'.μ (r',j+1,0)⟩,by unfold arrAt;rw[hkid' j,q2],?_,?_⟩
       ·subst hA;rcases q' with q'|⟨_,q'⟩
        ·exact Nat.le_of_lt q'
        ·rw[q,q2]at q';cases q';exact Nat.le_refl _
       ·subst hA;intro e';simp only at e';rcases q' with q'|⟨q3,q'⟩
        ·omega
        ·rw[q,q2]at q';cases q';refine⟨rfl,?_,Nat.le_refl _⟩
         exact hμ _ fun i r2 hmv e=>by
          simp only[Prod.mk.injEq,true_and,and_true,Nat.add_right_cancel_iff]at e;subst e;exact q3 r2 hmv
    ·unfold arrAt at ha;rw[hz x y hy]at ha;simp at ha
   ·by_cases e2:∃i,mv=some (i,id.1)
    ·obtain⟨i,e2⟩:=e2;obtain⟨_,⟨sz,v,l,_,q1,q3,_⟩,q2⟩:=hm i id.1 e2;obtain⟨r',p⟩:=id;simp only at q3;by_cases hp:p=(0,0)
     ·subst hp
      have hA:A=⟨v,sz,l.length,C.μ (r',0,0)⟩:=by
       unfold arrAt at ha;rw[q1]at ha;simpa using ha.symm
      subst hA;exact⟨⟨v+1,sz,0,C'.μ (r',0,0)⟩,by unfold arrAt;simp only[C'];rw[zxa7 q3];rfl,Nat.le_succ _,fun e=>by simp only at e;omega⟩
     ·unfold arrAt at ha;rw[q2 p hp]at ha;simp at ha
    ·have:=ho id e1 (fun i hi=>e2 ⟨i,hi⟩);refine⟨A,?_,Nat.le_refl _,fun _=>⟨rfl,rfl,Nat.le_refl _⟩⟩;unfold arrAt at ha ⊢;simp only[C']at *
     rw[this,hμ id (hother id e1)];exact ha
 have hRsl:∀(id id':Id) (v0 v1 sz:Nat) (l l':List Dat) (fz fz':Bool) (v:Value),C.ρ id=some (.arr sz v0 fz l)→C'.ρ id'=some (.arr sz v1 fz' l)→C'.μ id'=C.μ id→RepA C (.rsl id v0 sz 0 l.length) v→RepA C' (.rsl id' v1 sz 0 l.length) v:=by
  intro id id' v0 v1 sz l l' fz fz' v h1 h2 h3 hr;simp only[RepA]at hr ⊢;obtain⟨A,p,cap,a1,a2,a3,a4,a5,a6⟩:=hr;have hA:A=⟨v0,sz,l.length,C.μ id⟩:=by unfold arrAt at a1;rw[h1]at a1;simpa using a1.symm
  subst hA;obtain⟨g1,g2,g3,g4⟩:=a6 rfl;exact⟨⟨v1,sz,l.length,C'.μ id'⟩,p,cap,by unfold arrAt;rw[h2],Nat.le_refl _,a3,a4,a5,fun _=>⟨rfl,g2,by rw[h3];exact g3,fun hc=>by rw[h3];exact g4 hc⟩⟩
 have hcell:∀j k c,cells[j]?=some (k,c)→∃a,es[j]?=some (k,a)∧∀v,RepA C a v→RepA C' (cellA r pv j c) v:=by
  intro j k c hjc;by_cases hmj:∃r2,mv=some (j,r2)
  ·obtain⟨r2,hmj⟩:=hmj;obtain⟨m1,⟨sz,v,l,k0,m2,m3,m4,m5⟩,_⟩:=hm j r2 hmj;rw[hjc]at m4;cases m4;refine⟨_,m5,fun u hu=>?_⟩;simp only[cellA];refine hRsl (r2,0,0) (r,j+1,0) v pv sz l l false false u m2 (by rw[hkid' j,hjc];rfl) ?_ hu;rw[hμσ];simp[σ,movS,hmj]
  ·rcases hc j k c hjc with hmj'|⟨a,ha,hst⟩
   ·exact absurd hmj' hmj
   ·refine⟨a,ha,fun u hu=>?_⟩;cases c with
    |nil=>cases hst;simpa only[cellA,RepA]using hu
    |d l=>simp only[cellA,RepA];exact hst u hu
    |own fr fz sz l=>
     obtain⟨s1,v0,s2,s3⟩:=hst;cases fr with
     |false=>
      simp only[cellA,RepA];exact hu.leaf s1
     |true=>
      simp only[cellA];rw[s3 rfl]at hu;refine hRsl (r,j+1,0) (r,j+1,0) v0 pv sz l l fz fz u s2 (by rw[hkid' j,hjc];rfl) ?_ hu
      exact hμ _ fun i r2 hmv e=>by
       simp only[Prod.mk.injEq,true_and,and_true,Nat.add_right_cancel_iff]at e;subst e;exact hmj ⟨r2,hmv⟩
 refine⟨C',rfl,rfl,rfl,h.redesc rfl rfl σ ?_ ?_ ?_ hblkO,hg⟩
 ·
  intro id o hob;by_cases e1:id.1=r
  ·obtain⟨r',x,y⟩:=id;simp only at e1;subst e1;by_cases hy:y=0
   ·subst hy;cases x with
    |zero=>
     rw[hroot']at hob;simp only[Option.some.injEq]at hob;subst hob;rw[hμ _ hrne];obtain⟨o1,ens,clock,o2,ob,o3⟩:=h.objs _ _ hroot;refine⟨o1,ens,clock,o2,ob,zif7 (by rw[znb7,←hlen];exact o3.length) fun i e en hi hen=>?_⟩;rw[entsA_get]at hi;cases hcc:cells[i]? with
     |none=>rw[hcc]at hi;cases hi
     |some kc=>
      obtain⟨k,c⟩:=kc;rw[hcc]at hi;simp only[Option.map_some,Option.some.injEq,Nat.zero_add]at hi;subst hi;obtain⟨a',ha',hrep⟩:=hcell i k c hcc;obtain⟨en2,q1,q2,q3⟩:=o3.get ha';rw[hen]at q1;cases q1;exact⟨q2,hrep _ q3⟩
    |succ j=>
     rw[hkid' j]at hob;simp only[Option.some.injEq]at hob;subst hob;cases hcj:cells[j]? with
     |none=>exact zod7
     |some kc=>
      obtain⟨k,c⟩:=kc;cases c with
      |nil=>exact zod7
      |d l=>exact zod7
      |own fr fz sz l=>
       simp only[Option.map_some,kidO];by_cases hmj:∃r2,mv=some (j,r2)
       ·obtain⟨r2,hmj⟩:=hmj;obtain⟨m1,⟨sz',v,l',k0,m2,m3,m4,m5⟩,_⟩:=hm j r2 hmj;rw[hcj]at m4;cases m4;rw[hμσ];simp only[σ,movS,hmj,if_true];exact (h.objs _ _ m2).arr_ver rfl rfl
       ·rcases hc j _ _ hcj with hmj'|⟨a,ha,_,v0,s2,_⟩
        ·exact absurd hmj' hmj
        ·rw[hμ _ fun i r2 hmv e=>by
          simp only[Prod.mk.injEq,true_and,and_true,Nat.add_right_cancel_iff]at e;subst e;exact hmj ⟨r2,hmv⟩]
         exact (h.objs _ _ s2).arr_ver rfl rfl
   ·rw[hodd' x y hy]at hob;cases hob
  ·by_cases e2:∃i,mv=some (i,id.1)
   ·obtain⟨i,e2⟩:=e2;obtain⟨_,⟨sz,v,l,_,q1,q3,_⟩,q2⟩:=hm i id.1 e2;obtain⟨r',p⟩:=id;simp only at q3;by_cases hp:p=(0,0)
    ·subst hp;simp only[C']at hob;rw[zxa7 q3]at hob;simp only[Option.some.injEq]at hob;subst hob;rw[hμ _ (hother _ e1)];exact (h.objs _ _ q1).dead
    ·simp only[C']at hob;rw[zbb7 q3 hp]at hob;cases hob
   ·have hh:=ho id e1 (fun i hi=>e2 ⟨i,hi⟩);have hob':C.ρ id=some o:=by rw[←hh];exact hob
    rw[hμ id (hother id e1)];exact (h.objs id o hob').same rfl rfl hg
 ·
  intro id o hob how;refine ?_;rw[hμσ];by_cases e1:id.1=r
  ·obtain⟨r',x,y⟩:=id;simp only at e1;subst e1;by_cases hy:y=0
   ·subst hy;cases x with
    |zero=>rw[hroot']at hob;simp only[Option.some.injEq]at hob;subst hob;simp[Obj.own]at how
    |succ j=>
     rw[hkid' j]at hob;simp only[Option.some.injEq]at hob;subst hob;cases hcj:cells[j]? with
     |none=>rw[hcj]at how;simp[kidO,Obj.own]at how
     |some kc=>
      obtain⟨k,c⟩:=kc;cases c with
      |nil=>rw[hcj]at how;simp[kidO,Obj.own]at how
      |d l=>rw[hcj]at how;simp[kidO,Obj.own]at how
      |own fr fz sz l=>
       rw[hcj]at how;simp only[Option.map_some,kidO]at how;by_cases hmj:∃r2,mv=some (j,r2)
       ·obtain⟨r2,hmj⟩:=hmj;obtain⟨m1,⟨sz',v,l',k0,m2,m3,m4,m5⟩,_⟩:=hm j r2 hmj;refine⟨.arr sz' v false l',?_,rfl,rfl⟩;simp only[σ,movS,hmj,if_true];exact m2
       ·rcases hc j _ _ hcj with hmj'|⟨a,ha,_,v0,s2,_⟩
        ·exact absurd hmj' hmj
        ·refine⟨.arr sz v0 fz l,?_,?_,rfl⟩
         ·rw[hσid _ fun i r2 hmv e=>by
           simp only[Prod.mk.injEq,true_and,and_true,Nat.add_right_cancel_iff]at e;subst e;exact hmj ⟨r2,hmv⟩]
          exact s2
         ·simpa[Obj.own]using how
   ·rw[hodd' x y hy]at hob;cases hob
  ·rw[hσid id (hother id e1)];by_cases e2:∃i,mv=some (i,id.1)
   ·obtain⟨i,e2⟩:=e2;obtain⟨_,⟨sz,v,l,_,q1,q3,_⟩,q2⟩:=hm i id.1 e2;obtain⟨r',p⟩:=id;simp only at q3;by_cases hp:p=(0,0)
    ·subst hp;simp only[C']at hob;rw[zxa7 q3]at hob;simp only[Option.some.injEq]at hob;subst hob;simp[Obj.own]at how
    ·simp only[C']at hob;rw[zbb7 q3 hp]at hob;cases hob
   ·have hh:=ho id e1 (fun i hi=>e2 ⟨i,hi⟩);exact⟨o,by rw[←hh];exact hob,how,rfl⟩
 ·
  intro id id' o o' hob hob' how how' he;cases hmv:mv with
  |none=>simpa[σ,movS,hmv]using he
  |some p=>
   obtain⟨i,r2⟩:=p;obtain⟨m1,⟨sz,v,l,_,m2,m3,m4,m5⟩,_⟩:=hm i r2 hmv
   have key:∀id o,C'.ρ id=some o→o.own=true→id≠(r2,0,0):=by
    intro id o h1 h2 e;subst e;simp only[C']at h1;rw[zxa7 m3]at h1;simp only[Option.some.injEq]at h1;subst h1;simp[Obj.own]at h2
   simp only[σ,movS,hmv]at he;by_cases h1:id=(r,i+1,0)
   ·by_cases h2:id'=(r,i+1,0)
    ·rw[h1,h2]
    ·rw[if_pos h1,if_neg h2]at he;exact absurd he.symm (key id' o' hob' how')
   ·by_cases h2:id'=(r,i+1,0)
    ·rw[if_neg h1,if_pos h2]at he;exact absurd he (key id o hob how)
    ·rw[if_neg h1,if_neg h2]at he;exact he
end Go.Am

namespace Go.Am
variable [Glob]
theorem rowsA_set (r:RId) (pv k:Nat) (cells:List Cell) (i:Nat) (c c':Cell) (h:cells[i]?=some c) (he:cellA r pv (k+i) c'=cellA r pv (k+i) c):rowsA r pv k (cells.set i c')=rowsA r pv k cells:=by
 apply List.ext_getElem?;intro j;rw[zjb7,zjb7,List.getElem?_set];by_cases e:i=j
 ·subst e;obtain⟨hi,hh⟩:=List.getElem?_eq_some_iff.1 h;simp[hi,hh,he]
 ·simp[e]
theorem kidO_set (pv:Nat) (cells:List Cell) (i j:Nat) (c:Cell) (hi:i<cells.length):kidO pv (cells.set i c)[j]?=if i=j then kidO pv (some c) else kidO pv cells[j]?:=by
 rw[List.getElem?_set];by_cases e:i=j
 ·subst e;simp[hi]
 ·simp[e]
theorem flat_set {T:TLook} {r:RId} {ver pv:Nat} {cells:List Cell} (hT:T r=some (.fam ver pv false cells)) {i:Nat} {c c':Cell} (hc:cells[i]?=some c) (he:cellA r pv i c'=cellA r pv i c):
  flat (updT T [(r,.fam ver pv false (cells.set i c'))])=updL (flat T) [((r,i+1,0),kidO pv (some c'))]:=by
 funext x;obtain⟨r',a,b⟩:=x;have hi:=(List.getElem?_eq_some_iff.1 hc).1;simp only[updL];by_cases e:r'=r
 ·subst e;have hT':updT T [(r',.fam ver pv false (cells.set i c'))] r'=some (.fam ver pv false (cells.set i c')):=by simp[zza7]
  by_cases hb:b=0
  ·subst hb;cases a with
   |zero=>
    rw[zec7 hT',zec7 hT,rowsA_set r' pv 0 cells i c c' hc (by simpa using he)];simp
   |succ j=>
    rw[zac7 hT',zac7 hT,kidO_set pv cells i j c' hi];by_cases e:i=j
    ·subst e;simp
    ·simp[e]
  ·rw[zwe7 ⟨_,_,_,_,hT'⟩ hb,zwe7 ⟨_,_,_,_,hT⟩ hb];rw[if_neg];rintro h;simp only[Prod.mk.injEq]at h;exact hb h.2.2.symm
 ·rw[if_neg (fun h=>e (by simp only[Prod.mk.injEq]at h;exact h.1.symm))];apply zka7;simp only[zza7];rw[if_neg (fun h=>e h.symm)]
theorem lift1_exact {T:TLook} {id:Id} {o:Obj} {u:RId×TObj} (h:lift1 T id o=some u):flat (updT T [u])=updL (flat T) [(id,o)]:=by
 obtain⟨r,i,j⟩:=id;unfold lift1 at h;split at h
 ·rename_i ver pv fz cells hT;split at h
  ·rename_i i' sz ver' fz' l hid;simp only[Prod.mk.injEq]at hid;obtain⟨rfl,rfl⟩:=hid;split at h
   ·rename_i fr fz0 sz' l' hc;split at h
    ·rename_i hcond;obtain⟨rfl,rfl,rfl,hl⟩:=hcond;simp only[Option.some.injEq]at h;subst h;exact flat_set hT hc (by cases fr<;>simp[cellA,hl])
    ·cases h
   ·cases h
  ·cases h
 ·cases h
 ·rename_i hT hTm;split at h
  ·rename_i h0;simp only[Prod.mk.injEq]at h0;obtain⟨rfl,rfl⟩:=h0;simp only[Option.some.injEq]at h;subst h;funext x;obtain⟨r',a,b⟩:=x;simp only[updL];by_cases e:r'=r
   ·subst e;have hT':updT T [(r',.plain o)] r'=some (.plain o):=by simp[zza7]
    by_cases h0:(a,b)=(0,0)
    ·simp only[Prod.mk.injEq]at h0;obtain⟨rfl,rfl⟩:=h0;rw[zxa7 hT'];simp
    ·rw[zbb7 hT' h0,if_neg (fun h=>h0 (by simp only[Prod.mk.injEq,true_and]at h;simp[←h.1,←h.2]))];cases hTr:T r' with
     |none=>rw[flat_none hTr]
     |some o'=>
      cases o' with
      |plain o'=>rw[zbb7 hTr h0]
      |fam ver pv fz cells=>exact absurd hTr (hT _ _ _ _)
      |mapf pv es=>exact absurd hTr (hTm _ _)
   ·rw[if_neg (fun h=>e (by simp only[Prod.mk.injEq]at h;exact h.1.symm))];apply zka7;simp only[zza7];rw[if_neg (fun h=>e h.symm)]
  ·cases h
theorem liftX_exact:∀{upd:List (Id×Obj)} {T:TLook} {us:List (RId×TObj)},liftX T upd=some us→flat (updT T us)=updL (flat T) upd
 |[],T,us,h=>by
  simp only[liftX,Option.some.injEq]at h;subst h;rfl
 |(id,o)::r,T,us,h=>by
  simp only[liftX]at h;split at h
  ·cases h
  ·rename_i u hu;split at h
   ·cases h
   ·rename_i us' hus;simp only[Option.some.injEq]at h;subst h;have h1:=lift1_exact hu;have h2:=liftX_exact hus;have e1:updT T (u::us')=updT (updT T [u]) us':=by rw[←zob7];rfl
    rw[e1,h2,h1];rfl
section
variable {P:Program} {o:Oper} {a:Act} {B:Base} {C:Ctx} {g:Nat→AVal} {T:TLook}
theorem grown_ok (hI:Inv B C) {id:Id} {ob:Obj} (hρ:C.ρ=updL (flat T) [(id,ob)]) {u:RId×TObj} (h:grown T id ob=some u):
  ∃C':Ctx,C'.w=C.w∧C'.F=C.F∧C'.ρ=flat (updT T [u])∧Inv B C'∧Grow C C':=by
 obtain⟨r,x,y⟩:=id;unfold grown at h;split at h
 ·rename_i i sz ver' fz' l ver pv cells hid hT;simp only[Prod.mk.injEq]at hid;obtain⟨rfl,rfl⟩:=hid;split at h
  ·rename_i fr0 fz0 sz' l0 hc;split at h
   ·rename_i hcond;obtain⟨rfl,rfl⟩:=hcond;simp only[Option.some.injEq]at h;subst h;have hi:=(List.getElem?_eq_some_iff.1 hc).1;have hT':updT T [(r,.fam ver (pv+1) false (cells.set i (.own false fz' sz l)))] r=some (.fam ver (pv+1) false (cells.set i (.own false fz' sz l))):=by simp[zza7]
    refine fam_step hI r none (pv:=pv+1) (cells:=cells.set i (.own false fz' sz l)) (es:=rowsA r pv 0 cells) hT' ?_ (by rw[zia7];simp) ?_ ?_ ?_ (by simp) ?_
    ·rw[hρ];simp only[updL];rw[if_neg (by simp),zec7 hT];rfl
    ·intro j ob' hob';rw[hρ]at hob';simp only[updL]at hob';by_cases e:i=j
     ·subst e;simp only[if_true,Option.some.injEq]at hob';subst hob';exact⟨_,_,_,_,rfl,.inr ⟨by simp,by rw[kidO_set _ _ _ _ _ hi];simp[kidO]⟩⟩
     ·rw[if_neg (by simp;exact e),zac7 hT]at hob';obtain⟨s1,f1,l1,q⟩:=zhc7 pv cells[j]?;rw[q]at hob';simp only[Option.some.injEq]at hob';exact⟨_,_,_,_,hob'.symm,.inl (Nat.lt_succ_self _)⟩
    ·intro x y hy;rw[hρ];simp only[updL];rw[if_neg (by simp;intro _ h;exact hy h.symm),zwe7 ⟨_,_,_,_,hT⟩ hy]
    ·intro id' hid' _;rw[hρ];simp only[updL];rw[if_neg (fun e=>hid' (by rw[←e]))];exact zka7 (by simp only[zza7];rw[if_neg (fun e=>hid' e.symm)])
    ·intro j c hj;right;by_cases e:i=j
     ·subst e;rw[List.getElem?_set_self hi]at hj;simp only[Option.some.injEq]at hj;subst hj;refine⟨_,by rw[zjb7,hc];rfl,zbd7 _ _ _ _,pv+1,?_,by simp⟩;rw[hρ];simp[updL]
     ·rw[List.getElem?_set_ne e]at hj;refine⟨_,by rw[zjb7,hj];rfl,?_⟩;cases c with
      |nil=>rfl
      |d l=>intro v hv;simpa[cellA,RepA]using hv
      |own fr fz sz2 l2=>
       refine⟨zbd7 _ _ _ _,pv,?_,fun e=>by subst e;simp[cellA]⟩;rw[hρ];simp only[updL];rw[if_neg (by simp;exact e),zac7 hT,hj];rfl
   ·cases h
  ·cases h
 ·rename_i i sz ver' fz' l pv es hid hT;simp only[Prod.mk.injEq]at hid;obtain⟨rfl,rfl⟩:=hid;split at h
  ·rename_i kd fr0 fz0 sz' l0 hc;split at h
   ·rename_i hcond;obtain⟨rfl,rfl⟩:=hcond;simp only[Option.some.injEq]at h;subst h;have hi:=(List.getElem?_eq_some_iff.1 hc).1;have hT':updT T [(r,.mapf (pv+1) (es.set i (kd,.own false fz' sz l)))] r=some (.mapf (pv+1) (es.set i (kd,.own false fz' sz l))):=by simp[zza7]
    refine mapf_step hI r none (pv:=pv+1) (cells:=es.set i (kd,.own false fz' sz l)) (es:=entsA r pv 0 es) hT' ?_ (by rw[znb7];simp) ?_ ?_ ?_ (by simp) ?_
    ·rw[hρ];simp only[updL];rw[if_neg (by simp),flatM_root hT]
    ·intro j ob' hob';rw[hρ]at hob';simp only[updL]at hob';by_cases e:i=j
     ·subst e;simp only[if_true,Option.some.injEq]at hob';subst hob';exact⟨_,_,_,_,rfl,.inr ⟨by simp,by rw[List.getElem?_set_self hi];simp[kidO]⟩⟩
     ·rw[if_neg (by simp;exact e),zme7 hT]at hob';obtain⟨s1,f1,l1,q⟩:=zhc7 pv (es[j]?.map (·.2));rw[q]at hob';simp only[Option.some.injEq]at hob';exact⟨_,_,_,_,hob'.symm,.inl (Nat.lt_succ_self _)⟩
    ·intro x y hy;rw[hρ];simp only[updL];rw[if_neg (by simp;intro _ h;exact hy h.symm),flatM_odd ⟨_,_,hT⟩ hy]
    ·intro id' hid' _;rw[hρ];simp only[updL];rw[if_neg (fun e=>hid' (by rw[←e]))];exact zka7 (by simp only[zza7];rw[if_neg (fun e=>hid' e.symm)])
    ·intro j k c hj;right;by_cases e:i=j
     ·subst e;rw[List.getElem?_set_self hi]at hj;simp only[Option.some.injEq,Prod.mk.injEq]at hj;obtain⟨rfl,rfl⟩:=hj;refine⟨_,by rw[entsA_get,hc];rfl,zbd7 _ _ _ _,pv+1,?_,by simp⟩;rw[hρ];simp[updL]
     ·rw[List.getElem?_set_ne e]at hj;refine⟨_,by rw[entsA_get,hj];rfl,?_⟩;cases c with
      |nil=>rfl
      |d l=>intro v hv;simpa[cellA,RepA]using hv
      |own fr fz sz2 l2=>
       refine⟨zbd7 _ _ _ _,pv,?_,fun e=>by subst e;simp[cellA]⟩;rw[hρ];simp only[updL];rw[if_neg (by simp;exact e),zme7 hT,hj];rfl
   ·cases h
  ·cases h
 ·cases h
theorem lift_ok (hI:Inv B C) {upd:List (Id×Obj)} (hρ:C.ρ=updL (flat T) upd) {us:List (RId×TObj)} (h:lift T upd=some us):
  ∃C':Ctx,C'.w=C.w∧C'.F=C.F∧C'.ρ=flat (updT T us)∧Inv B C'∧Grow C C':=by
 have exact':liftX T upd=some us→∃C':Ctx,C'.w=C.w∧C'.F=C.F∧C'.ρ=flat (updT T us)∧Inv B C'∧Grow C C':=fun h=>
  ⟨C,rfl,rfl,by rw[liftX_exact h];exact hρ,hI,Grow.refl C⟩
 unfold lift at h;split at h
 ·simp only[Option.some.injEq]at h;subst h;exact⟨C,rfl,rfl,hρ,hI,Grow.refl C⟩
 ·split at h
  ·rename_i u hu;simp only[Option.some.injEq]at h;subst h;exact grown_ok hI hρ hu
  ·exact exact' h
 ·exact exact' h
def DecOK (B:Base) (C:Ctx) (T:TLook) (us:List (RId×TObj)) (Q:Ctx→Prop):Prop:=
 ∃C1:Ctx,C1.w=C.w∧C1.ρ=flat (updT T us)∧Inv B C1∧Grow C C1∧Q C1
theorem zve7 {ρ:Look}:∀(fs:List Id) (ρ':Look) (x:Id),(ρ' x=ρ x∨(x∈fs∧∃sz ver fz es,ρ x=some (.arr sz ver fz es)∧ρ' x=some (.arr sz ver true es)))→
  updL ρ' (frz ρ fs) x=if x∈fs then (match ρ x with|some (.arr sz ver _ es)=>some (.arr sz ver true es)|o=>o) else ρ x
 |[],ρ',x,h=>by
  simp only[frz,updL];rcases h with h|⟨h,_⟩
  ·simpa using h
  ·cases h
 |i::r,ρ',x,h=>by
  simp only[frz];by_cases e:x=i
  ·subst e;simp only[List.mem_cons,true_or,if_true];cases hx:ρ x with
   |none=>
    simp only
    have h':ρ' x=ρ x:=by
     rcases h with h|⟨_,sz,ver,fz,es,h1,_⟩
     ·exact h
     ·rw[hx]at h1;cases h1
    have:=zve7 r ρ' x (.inl h');rw[this,hx];simp
   |some ob=>
    cases ob with
    |arr sz ver fz es=>
     simp only[updL];by_cases hr:x∈r
     ·have:=zve7 (ρ:=ρ) r (fun j=>if x=j then some (.arr sz ver true es) else ρ' j) x (.inr ⟨hr,sz,ver,fz,es,hx,by simp⟩);rw[this,if_pos hr,hx]
     ·rw[zgd7 r hr];simp
    |box cs=>
     simp only
     have h':ρ' x=ρ x:=by
      rcases h with h|⟨_,sz,ver,fz,es,h1,_⟩
      ·exact h
      ·rw[hx]at h1;cases h1
     have:=zve7 r ρ' x (.inl h');rw[this,hx];simp
    |blk y=>
     simp only
     have h':ρ' x=ρ x:=by
      rcases h with h|⟨_,sz,ver,fz,es,h1,_⟩
      ·exact h
      ·rw[hx]at h1;cases h1
     have:=zve7 r ρ' x (.inl h');rw[this,hx];simp
    |rarr sz v es=>
     simp only
     have h':ρ' x=ρ x:=by
      rcases h with h|⟨_,sz,ver,fz,es,h1,_⟩
      ·exact h
      ·rw[hx]at h1;cases h1
     have:=zve7 r ρ' x (.inl h');rw[this,hx];simp
  ·have h':ρ' x=ρ x∨(x∈r∧∃sz ver fz es,ρ x=some (.arr sz ver fz es)∧ρ' x=some (.arr sz ver true es)):=by
    rcases h with h|⟨h1,h2⟩
    ·exact .inl h
    ·exact .inr ⟨(List.mem_cons.1 h1).resolve_left e,h2⟩
   have hmem:(x∈i::r)=(x∈r):=by simp[e]
   simp only[hmem];split
   ·simp only[updL];refine zve7 r _ x ?_;rw[if_neg (fun q=>e q.symm)];exact h'
   ·exact zve7 r ρ' x h'
theorem dec_arr (hI:Inv B C) (hρ:C.ρ=flat T) {id:Id} {sz ver off len:Nat} {fz:Bool} {es:List Dat} (h:flat T id=some (.arr sz ver fz es)) (hb:off+len≤es.length) {us:List (RId×TObj)}
  (hus:if fz then us=[] else flat (updT T us)=updL (flat T) [(id,.arr sz ver true es)]):
  DecOK B C T us fun C1=>∀val,RepA C (.rsl id ver sz off len) val→RepV C1.F (.sl ((es.drop off).take len)) val:=by
 have hid:C.ρ id=some (.arr sz ver fz es):=by rw[hρ];exact h
 obtain⟨C1,k1,k2,k3,k4,k5,k6⟩:=hI.freeze1 hid
 have hsame:fz=true→C1.ρ=flat T:=by
  intro e;subst e;rw[k3,←hρ];funext x;simp only[updL];split
  ·rename_i e;subst e;exact hid.symm
  ·rfl
 refine⟨C1,k1,?_,k4,k5,fun val hv=>?_⟩
 ·cases fz with
  |true=>
   simp only[if_true]at hus;subst hus;exact hsame rfl
  |false=>
   simp only[Bool.false_eq_true,if_false]at hus;rw[k3,hus,hρ]
 ·refine zmd7 (C:=C) (C':=C1) k5.F (fs:=[id]) (fun i hi sz' ver' fz' es' he=>?_) (x:=.rsl id ver sz off len) ?_ hv
  ·simp only[List.mem_singleton]at hi;subst hi;rw[hid]at he;cases he;exact k6
  ·unfold zpb7;simp only[hid];rw[if_pos ⟨trivial,trivial,hb⟩]
theorem freeze_dat (c:Cell):c.freeze.dat=c.dat:=by cases c<;>rfl
theorem map_freeze_dat (cells:List Cell):(cells.map Cell.freeze).map Cell.dat=cells.map Cell.dat:=by
 rw[List.map_map]
 congr 1
 funext c;exact freeze_dat c
theorem fam_thaw (hI:Inv B C) (hρ:C.ρ=flat T) {r:RId} {ver pv:Nat} {cells:List Cell} (h:T r=some (.fam ver pv false cells)) (hfr:cells.all Cell.fresh=true):
  ∃C2:Ctx,C2.w=C.w∧Inv B C2∧Grow C C2∧C2.ρ (r,0,0)=some (.arr 1 ver false (cells.map Cell.dat))∧(∀j,C2.ρ (r,j+1,0)=some (kidO pv ((cells[j]?).map Cell.freeze)))∧
   (∀x y,y≠0→C2.ρ (r,x,y)=none)∧∀id:Id,id.1≠r→C2.ρ id=flat T id:=by
 let fs:List Id:=(List.range cells.length).map fun j=>(r,j+1,0)
 obtain⟨C1,k1,k2,k3,k4,k5,k6⟩:=hI.freeze fs;have hroot:C.ρ (r,0,0)=some (.rarr 1 ver (rowsA r pv 0 cells)):=by rw[hρ,zec7 h];rfl
 have hlook:∀x,C1.ρ x=if x∈fs then (match flat T x with|some (.arr sz ver _ es)=>some (.arr sz ver true es)|o=>o) else flat T x:=by
  intro x;rw[k3,←hρ];exact zve7 fs C.ρ x (.inl rfl)
 have hmem:∀j,j<cells.length→((r,j+1,0):Id)∈fs:=fun j hj=>List.mem_map.2 ⟨j,by simpa using hj,rfl⟩
 have hnroot:((r,0,0):Id)∉fs:=by
  intro hm;obtain⟨j,_,e⟩:=List.mem_map.1 hm;simp at e
 have hroot1:C1.ρ (r,0,0)=some (.rarr 1 ver (rowsA r pv 0 cells)):=by
  rw[hlook,if_neg hnroot,zec7 h];rfl
 have hkid1:∀j c,cells[j]?=some c→C1.ρ (r,j+1,0)=some (match c with|.nil=>.arr 1 pv true []|.d _=>.arr 1 pv true []|.own _ _ sz l=>.arr sz pv true l):=by
  intro j c hc;have hj:=(List.getElem?_eq_some_iff.1 hc).1;rw[hlook,if_pos (hmem j hj),zac7 h,hc];cases c<;>rfl
 have hcells:∀j c,cells[j]?=some c→∀v,RepA C1 (cellA r pv j c) v→RepD C1.F c.dat [v]:=by
  intro j c hc v hv;have hfj:c.fresh=true:=List.all_eq_true.1 hfr c (List.mem_of_getElem? hc);cases c with
  |nil=>
   simp only[cellA,RepA]at hv;subst hv;exact (zhb7 rfl (by simp[RepD,Cell.dat])).cell rfl
  |d l=>
   simp only[cellA,RepA]at hv;exact hv.cell rfl
  |own fr fz sz l=>
   simp only[Cell.fresh]at hfj;subst hfj;have hk:=hkid1 j _ hc;simp only at hk;have hrow:=(k4.objs _ _ hk).2.2.2 rfl
   have:=zmd7 (C:=C1) (C':=C1) (fun _ _ _ h=>h) (fs:=[(r,j+1,0)]) (fun i hi sz' ver' fz' es' he=>by
    simp only[List.mem_singleton]at hi;subst hi;rw[hk]at he;cases he
    exact hrow) (x:=.rsl (r,j+1,0) pv sz 0 l.length) (d:=.sl ((l.drop 0).take l.length)) (by
     unfold zpb7;simp only[hk];rw[if_pos ⟨trivial,trivial,by omega⟩]) hv
   simp only[List.drop_zero,List.take_length]at this;exact this.cell rfl
 let C2:Ctx:={ C1 with ρ:=updL C1.ρ [((r,0,0),.arr 1 ver false (cells.map Cell.dat))] }
 have hC2:∀x,x≠(r,0,0)→C2.ρ x=C1.ρ x:=fun x hx=>by simp only[C2,updL];rw[if_neg (fun e=>hx e.symm)]
 have hC2r:C2.ρ (r,0,0)=some (.arr 1 ver false (cells.map Cell.dat)):=by simp[C2,updL]
 have hg2:Grow C1 C2:=by
  refine⟨fun _ _ _ h=>h,fun id L _ hb=>?_,fun id A _ ha=>?_,fun id b _ hb=>by
   by_cases e:id=(r,0,0)
   ·subst e;unfold blkAt at hb;rw[hroot1]at hb;simp at hb
   ·unfold blkAt at hb ⊢;rw[hC2 id e];exact hb⟩
  ·by_cases e:id=(r,0,0)
   ·subst e;unfold boxAt at hb;rw[hroot1]at hb;simp at hb
   ·unfold boxAt at hb ⊢;rw[hC2 id e];exact hb
  ·by_cases e:id=(r,0,0)
   ·subst e;refine⟨A,?_,Nat.le_refl _,fun _=>⟨rfl,rfl,Nat.le_refl _⟩⟩;unfold arrAt at ha ⊢;rw[hroot1]at ha;rw[hC2r];simpa[zia7]using ha
   ·refine⟨A,?_,Nat.le_refl _,fun _=>⟨rfl,rfl,Nat.le_refl _⟩⟩;unfold arrAt at ha ⊢;rw[hC2 id e];exact ha
 have hI2:Inv B C2:=by
  refine k4.redesc rfl rfl (fun i=>i) (fun id o ho=>?_) (fun id o ho how=>?_) (fun _ _ _ _ _ _ _ _ e=>e) (fun id x hx=>by
   by_cases e:id=(r,0,0)
   ·subst e;rw[hC2r]at hx;cases hx
   ·rw[hC2 id e]at hx;exact⟨x,hx,rfl⟩)
  ·by_cases e:id=(r,0,0)
   ·subst e;rw[hC2r]at ho;simp only[Option.some.injEq]at ho;subst ho;obtain⟨o1,⟨cap,o2,o2'⟩,o3,o4,o5⟩:=k4.objs _ _ hroot1;refine⟨o1,⟨cap,o2,by rw[zia7]at o2';simpa using o2'⟩,fun _=>⟨fun j hj=>o4 j hj,fun i d hd=>?_⟩,fun e=>by cases e⟩;rw[List.getElem?_map]at hd;obtain⟨c,hc,rfl⟩:=zda7 hd;obtain⟨v,hv,hr⟩:=o5 i [cellA r pv i c] (by rw[zjb7,hc];simp) 0 _ rfl;refine⟨[v],rfl,hcells i c hc v hr,fun j u hj=>?_⟩;cases j with
    |zero=>simp at hj;subst hj;exact hv
    |succ j=>simp at hj
   ·rw[hC2 id e]at ho;exact (k4.objs id o ho).same rfl rfl hg2
  ·by_cases e:id=(r,0,0)
   ·subst e;exact⟨_,hroot1,rfl,rfl⟩
   ·rw[hC2 id e]at ho;exact⟨o,ho,how,rfl⟩
 have hn:∀x,x∉fs→C1.ρ x=flat T x:=fun x hx=>by rw[hlook,if_neg hx]
 refine⟨C2,k1,hI2,k5.trans hg2,hC2r,fun j=>?_,fun x y hy=>?_,fun id hid=>?_⟩
 ·rw[hC2 _ (by simp)];cases hc:cells[j]? with
  |none=>
   rw[hn _ (by
    intro hm;obtain⟨k,hk,e⟩:=List.mem_map.1 hm;simp at e hk;subst e;have:=List.getElem?_eq_none_iff.1 hc;omega),zac7 h,hc]
   rfl
  |some c=>
   rw[hkid1 j c hc];cases c<;>rfl
 ·rw[hC2 _ (by simp;intro _ e;exact hy e),hn _ (by
   intro hm;obtain⟨k,hk,e⟩:=List.mem_map.1 hm;simp at e;exact hy e.2.symm),zwe7 ⟨_,_,_,_,h⟩ hy]
 ·rw[hC2 _ (fun e=>hid (by rw[e])),hn _ (by
   intro hm;obtain⟨k,hk,e⟩:=List.mem_map.1 hm;exact hid (by rw[←e]))]
theorem dec_fam (hI:Inv B C) (hρ:C.ρ=flat T) {r:RId} {ver pv off len:Nat} {fz:Bool} {cells:List Cell} (h:T r=some (.fam ver pv fz cells)) (hb:off+len≤cells.length) (hfr:cells.all Cell.fresh=true):
  DecOK B C T (if fz then [] else [(r,.fam ver pv true (cells.map Cell.freeze))]) fun C1=>∀val,RepA C (.rsl (r,0,0) ver 1 off len) val→RepV C1.F (.sl (((cells.map Cell.dat).drop off).take len)) val:=by
 cases fz with
 |true=>
  have hroot:=zec7 h;simp only[if_true]at hroot;exact dec_arr hI hρ hroot (by simpa using hb) (by simp)
 |false=>
  simp only[Bool.false_eq_true,if_false];obtain⟨C2,k1,hI2,hg,hC2r,q1,q2,q3⟩:=fam_thaw hI hρ h hfr;obtain⟨C3,m1,m2,m3,m4,m5,m6⟩:=hI2.freeze1 hC2r;have hT':updT T [(r,.fam ver pv true (cells.map Cell.freeze))] r=some (.fam ver pv true (cells.map Cell.freeze)):=by simp[zza7]
  refine⟨C3,by rw[m1];exact k1,?_,m4,hg.trans m5,fun val hv=>?_⟩
  ·rw[m3];funext x;obtain⟨r',p,q⟩:=x;simp only[updL];by_cases e:r'=r
   ·subst e;by_cases hq:q=0
    ·subst hq;cases p with
     |zero=>rw[zec7 hT',map_freeze_dat];simp
     |succ j=>rw[if_neg (by simp),zac7 hT',q1 j,List.getElem?_map]
    ·rw[if_neg (by simp;intro _ e;exact hq e.symm),q2 _ _ hq,zwe7 ⟨_,_,_,_,hT'⟩ hq]
   ·rw[if_neg (fun h=>e (by simp only[Prod.mk.injEq]at h;exact h.1.symm)),q3 _ e];refine (zka7 ?_).symm;simp only[zza7];rw[if_neg (fun h=>e h.symm)]
  ·have hv2:RepA C2 (.rsl (r,0,0) ver 1 off len) val:=hv.grow hg;refine zmd7 (C:=C2) (C':=C3) m5.F (fs:=[(r,0,0)]) (fun i hi sz' ver' fz' es' he=>?_) (x:=.rsl (r,0,0) ver 1 off len) ?_ hv2
   ·simp only[List.mem_singleton]at hi;subst hi;rw[hC2r]at he;cases he;exact m6
   ·unfold zpb7;simp only[hC2r];rw[if_pos ⟨trivial,trivial,by simpa using hb⟩]
theorem decT_ok (hI:Inv B C) (hρ:C.ρ=flat T) {x:AVal} {d:Dat} {us:List (RId×TObj)} (h:decT T x=some (d,us)):
  DecOK B C T us fun C1=>∀val,RepA C x val→RepV C1.F d val:=by
 have plain:∀{d:Dat} {us:List (RId×TObj)},us=[]→(∀val,RepA C x val→RepV C.F d val)→DecOK B C T us fun C1=>∀val,RepA C x val→RepV C1.F d val:=
  fun e hv=>by subst e;exact⟨C,rfl,hρ,hI,Grow.refl C,hv⟩
 unfold decT at h;split at h
 ·simp only[Option.some.injEq,Prod.mk.injEq]at h;obtain⟨rfl,rfl⟩:=h;exact plain rfl fun val hv=>by simpa only[RepA]using hv
 ·simp only[Option.some.injEq,Prod.mk.injEq]at h;obtain⟨rfl,rfl⟩:=h;exact plain rfl fun val hv=>by simp only[RepA]at hv;subst hv;exact zhb7 rfl (by simp[RepD])
 ·simp only[Option.some.injEq,Prod.mk.injEq]at h;obtain⟨rfl,rfl⟩:=h;exact plain rfl fun val hv=>by simp only[RepA]at hv;obtain⟨p,c,rfl,_⟩:=hv;exact zhb7 rfl (by simp[RepD])
 ·simp only[Option.some.injEq,Prod.mk.injEq]at h;obtain⟨rfl,rfl⟩:=h;exact plain rfl fun val hv=>by simp only[RepA]at hv;obtain⟨p,rfl⟩:=hv;exact zhb7 rfl (by simp[RepD])
 ·simp only[Option.some.injEq,Prod.mk.injEq]at h;obtain⟨rfl,rfl⟩:=h;exact plain rfl fun val hv=>by simp only[RepA]at hv;exact hv.2
 ·rename_i r i j ver sz off len;split at h
  ·rename_i sz' ver' fz es hT;split at h
   ·rename_i hc;obtain⟨rfl,rfl,rfl,rfl,hb⟩:=hc;simp only[Option.some.injEq,Prod.mk.injEq]at h;obtain⟨rfl,rfl⟩:=h;refine dec_arr hI hρ (zxa7 hT) hb ?_;cases fz with
    |true=>simp
    |false=>
     simp only[Bool.false_eq_true,if_false];exact lift1_exact (T:=T) (id:=(r,0,0)) (by simp[lift1,hT])
   ·cases h
  ·rename_i ver' pv fz cells hT;split at h
   ·rename_i hj;subst hj;split at h
    ·split at h
     ·rename_i hc;obtain⟨rfl,rfl,hb,hfr⟩:=hc;simp only[Option.some.injEq,Prod.mk.injEq]at h;obtain⟨rfl,rfl⟩:=h;exact dec_fam hI hρ hT hb hfr
     ·cases h
    ·rename_i i;split at h
     ·rename_i fr fz' sz' l hc;split at h
      ·rename_i hcond;obtain⟨rfl,rfl,hb,rfl⟩:=hcond;simp only[Option.some.injEq,Prod.mk.injEq]at h;obtain⟨rfl,rfl⟩:=h;refine dec_arr (id:=(r,i+1,0)) hI hρ (by rw[zac7 hT,hc];rfl) hb ?_;cases fz' with
       |true=>simp
       |false=>
        simp only[Bool.false_eq_true,if_false];exact flat_set hT hc (by cases fr<;>rfl)
      ·cases h
     ·cases h
   ·cases h
  ·cases h
 ·cases h
theorem DecOK.then_ {us us':List (RId×TObj)} {Q Q':Ctx→Prop} (h:DecOK B C T us Q) (h':∀C1:Ctx,C1.w=C.w→C1.ρ=flat (updT T us)→Inv B C1→Grow C C1→Q C1→DecOK B C1 (updT T us) us' Q'):DecOK B C T (us++us') Q':=by
 obtain⟨C1,h1,h2,h3,h4,h5⟩:=h;obtain⟨C2,k1,k2,k3,k4,k5⟩:=h' C1 h1 h2 h3 h4 h5;exact⟨C2,k1.trans h1,by rw[zob7];exact k2,k3,h4.trans k4,k5⟩
theorem decLsT_ok:∀{l:List AVal} {T:TLook} {C:Ctx} {ds:List Dat} {us:List (RId×TObj)},Inv B C→C.ρ=flat T→decLsT T l=some (ds,us)→
  DecOK B C T us fun C1=>∀cs,RepL C l cs→AggD C1.F ds cs
 |[],T,C,ds,us,hI,hρ,h=>by
  simp only[decLsT,Option.some.injEq,Prod.mk.injEq]at h;obtain⟨rfl,rfl⟩:=h;exact⟨C,rfl,hρ,hI,Grow.refl C,fun cs hcs=>by simpa[RepL,AggD]using hcs⟩
 |x::l,T,C,ds,us,hI,hρ,h=>by
  simp only[decLsT]at h;split at h
  ·cases h
  ·rename_i d us1 hd;split at h
   ·cases h
   ·rename_i ds' us2 hds;split at h
    ·cases h
    ·rename_i hagg;simp only[Option.some.injEq,Prod.mk.injEq]at h;obtain⟨rfl,rfl⟩:=h;refine (decT_ok hI hρ hd).then_ fun C1 e1 e2 e3 e4 e5=>?_
     obtain⟨C2,k1,k2,k3,k4,k5⟩:=decLsT_ok e3 e2 hds;refine⟨C2,k1,k2,k3,k4,fun cs hcs=>?_⟩;simp only[RepL]at hcs;obtain⟨c,cs',rfl,h1,h2⟩:=hcs;simp only[AggD];have hda:d.isAgg=false:=by simpa using hagg
     exact⟨c,cs',rfl,hda,((e5 c h1).mono k4.F).cell hda,k5 cs' (h2.grow e4)⟩
theorem decV_ok (hI:Inv B C) (hρ:C.ρ=flat T) {x:AVal} {d:Dat} {us:List (RId×TObj)} (h:decV T x=some (d,us)):
  DecOK B C T us fun C1=>∀val,RepA C x val→RepV C1.F d val:=by
 unfold decV at h;split at h
 ·rename_i l;split at h
  ·rename_i ds us' hds;simp only[Option.some.injEq,Prod.mk.injEq]at h;obtain⟨rfl,rfl⟩:=h;obtain⟨C1,h1,h2,h3,h4,h5⟩:=decLsT_ok hI hρ hds;refine⟨C1,h1,h2,h3,h4,fun val hv=>?_⟩;simp only[RepA]at hv;obtain⟨cs,rfl,q1,_,_⟩:=hv;exact repV_agg (h5 _ q1)
  ·cases h
 ·exact decT_ok hI hρ h
theorem argsT_ok:∀{l:List (AVal×Bool)} {T:TLook} {C:Ctx} {vs:List AVal} {us:List (RId×TObj)},Inv B C→C.ρ=flat T→argsT T l=some (vs,us)→
  DecOK B C T us fun C1=>∀cs,RepL C (l.map (·.1)) cs→RepL C1 vs cs
 |[],T,C,vs,us,hI,hρ,h=>by
  simp only[argsT,Option.some.injEq,Prod.mk.injEq]at h;obtain⟨rfl,rfl⟩:=h;exact⟨C,rfl,hρ,hI,Grow.refl C,fun cs hcs=>by simpa[RepL]using hcs⟩
 |(x,true)::l,T,C,vs,us,hI,hρ,h=>by
  simp only[argsT]at h;split at h
  ·cases h
  ·rename_i vs' us' hv;simp only[Option.some.injEq,Prod.mk.injEq]at h;obtain⟨rfl,rfl⟩:=h;obtain⟨C1,k1,k2,k3,k4,k5⟩:=argsT_ok hI hρ hv;refine⟨C1,k1,k2,k3,k4,fun cs hcs=>?_⟩;simp only[List.map_cons,RepL]at hcs ⊢;obtain⟨c,cs',rfl,h1,h2⟩:=hcs;exact⟨c,cs',rfl,h1.grow k4,k5 cs' h2⟩
 |(x,false)::l,T,C,vs,us,hI,hρ,h=>by
  simp only[argsT]at h;split at h
  ·cases h
  ·rename_i d us1 hd;split at h
   ·cases h
   ·rename_i vs' us2 hv;simp only[Option.some.injEq,Prod.mk.injEq]at h;obtain⟨rfl,rfl⟩:=h;refine (decV_ok hI hρ hd).then_ fun C1 e1 e2 e3 e4 e5=>?_
    obtain⟨C2,k1,k2,k3,k4,k5⟩:=argsT_ok e3 e2 hv;refine⟨C2,k1,k2,k3,k4,fun cs hcs=>?_⟩;simp only[List.map_cons,RepL]at hcs ⊢;obtain⟨c,cs',rfl,h1,h2⟩:=hcs;refine⟨c,cs',rfl,?_,k5 cs' (h2.grow e4)⟩;simp only[RepA];exact (e5 c h1).mono k4.F
end
end Go.Am
