/- Parts of the proofs of the statement, joined and made short: AmT3. -/
import Derived.Test.YtmoibjjpfemgjaaGreatDoorP11
set_option linter.unusedVariables false
set_option linter.unusedSimpArgs false
set_option linter.unusedSectionVars false
namespace Go.Am
variable [Glob]
section
variable {P:Program} {o:Oper} {a:Act} {B:Base} {C:Ctx} {g:Nat→AVal} {T:TLook} {site:Nat} {m:Mk} {k:AK} {v:AVal} {us:List (RId×TObj)}
def OwesT (B:Base) (C:Ctx) (T:TLook) (v:AVal) (us:List (RId×TObj)) (val:Value) (w':World):Prop:=
 ∃C':Ctx,C'.w=w'∧C'.ρ=flat (updT T us)∧Inv B C'∧Grow C C'∧RepA C' v val
theorem flatE_ok (hI:Inv B C) (hρ:C.ρ=flat T) (hE:RepE C g a) (hc:cOp P m o=some k) (h:flatE site k g T=some (v,us)):Does P o a C.w (OwesT B C T v us):=by
 unfold flatE at h;split at h
 ·cases h
 ·rename_i v' upd ho;split at h
  ·cases h
  ·rename_i us' hl;simp only[Option.some.injEq,Prod.mk.injEq]at h;obtain⟨rfl,rfl⟩:=h;rw[←hρ]at ho;refine (op_sound hI hE hc ho).mono fun val w' ⟨C',h1,h2,h3,h4,h5⟩=>?_
   obtain⟨C2,k1,k2,k3,k4,k5⟩:=lift_ok h3 (by rw[h2,hρ]) hl;exact⟨C2,k1.trans h1,k3,k4,h4.trans k5,h5.grow k5⟩
theorem cellIn_cases {r:RId} {pv i:Nat} {old:Option Cell} {mv b:Bool} {w:AVal} {c:Cell} (h:cellIn T r pv old i mv w=some (c,b,us)):
  (∃l,decT T w=some (.sl l,us)∧us.any (fun u=>u.1==r)=false∧c=.d l∧(b=false→∀fr fz sz l,old≠some (.own fr fz sz l)))∨
  (∃fr fz sz l,old=some (.own fr fz sz l)∧w=.rsl (r,i+1,0) pv sz 0 l.length∧c=.own true fz sz l∧b=false∧us=[])∨
  (∃r2 ver sz l,r2≠r∧T r2=some (.plain (.arr sz ver false l))∧w=.rsl (r2,0,0) ver sz 0 l.length∧c=.own true false sz l∧b=true∧us=[(r2,.plain (.arr sz (ver+1) true []))]):=by
 have data:cellIn.data T r old w=some (c,b,us)→(∃l,decT T w=some (.sl l,us)∧us.any (fun u=>u.1==r)=false∧c=.d l∧(b=false→∀fr fz sz l,old≠some (.own fr fz sz l))):=by
  intro h;unfold cellIn.data at h;split at h
  ·rename_i l us' hd;split at h
   ·cases h
   ·rename_i hany;simp only[Option.some.injEq,Prod.mk.injEq]at h;obtain⟨rfl,hb,rfl⟩:=h;refine⟨l,hd,(Bool.not_eq_true _).mp hany,rfl,fun e=>?_⟩;subst e;intro fr fz sz l' e;subst e;simp at hb
  ·cases h
 unfold cellIn at h;split at h
 ·rename_i r2 i2 j2 ver sz off len;split at h
  ·rename_i hr;subst hr;split at h
   ·rename_i hc;obtain⟨rfl,rfl,rfl,rfl⟩:=hc;split at h
    ·rename_i fr fz sz' l;split at h
     ·rename_i hc2;obtain⟨rfl,rfl⟩:=hc2;simp only[Option.some.injEq,Prod.mk.injEq]at h;obtain⟨rfl,rfl,rfl⟩:=h;exact .inr (.inl ⟨fr,fz,_,l,rfl,rfl,rfl,rfl,rfl⟩)
     ·cases h
    ·cases h
   ·cases h
  ·rename_i hr;split at h
   ·split at h
    ·rename_i sz' ver' l hT;split at h
     ·rename_i hc;obtain⟨rfl,rfl,rfl,rfl,rfl,rfl⟩:=hc;simp only[Option.some.injEq,Prod.mk.injEq]at h;obtain⟨rfl,rfl,rfl⟩:=h;exact .inr (.inr ⟨r2,_,_,l,hr,hT,rfl,rfl,rfl,rfl⟩)
     ·cases h
    ·cases h
   ·exact .inl (data h)
 ·exact .inl (data h)
inductive Laid (T1:TLook) (r:RId) (pv i:Nat) (Y:AVal):Cell→List (RId×TObj)→Prop
 |data (l:List Dat) (h:Y=.dat (.sl l)):Laid T1 r pv i Y (.d l) []
 |same (fz:Bool) (sz:Nat) (l:List Dat) (h:flat T1 (r,i+1,0)=some (.arr sz pv fz l)) (hY:Y=.rsl (r,i+1,0) pv sz 0 l.length):Laid T1 r pv i Y (.own true fz sz l) []
 |moved (r2:RId) (ver sz:Nat) (l:List Dat) (hne:r2≠r) (hT:T1 r2=some (.plain (.arr sz ver false l))) (hY:Y=.rsl (r2,0,0) ver sz 0 l.length):
   Laid T1 r pv i Y (.own true false sz l) [(r2,.plain (.arr sz (ver+1) true []))]
theorem flat_not_fam {T1:TLook} {r:RId} {x y:Nat} {ob:Obj} (h:flat T1 (r,x,y)=some ob) (hx:¬(x=0∧y=0)):(∃ver pv fz cells,T1 r=some (.fam ver pv fz cells))∨∃pv es,T1 r=some (.mapf pv es):=by
 cases hT:T1 r with
 |none=>rw[flat_none hT]at h;cases h
 |some o=>
  cases o with
  |plain o=>rw[zbb7 hT (by simp;exact fun e=>fun e'=>hx ⟨e,e'⟩)]at h;cases h
  |fam ver pv fz cells=>exact .inl ⟨_,_,_,_,rfl⟩
  |mapf pv es=>exact .inr ⟨_,_,rfl⟩
theorem flat_y {T1:TLook} {r:RId} {x y:Nat} (hy:y≠0):flat T1 (r,x,y)=none:=by
 cases hT:T1 r with
 |none=>exact flat_none hT _
 |some o=>
  cases o with
  |plain o=>exact zbb7 hT (by simp[hy])
  |fam ver pv fz cells=>exact zwe7 ⟨_,_,_,_,hT⟩ hy
  |mapf pv es=>exact flatM_odd ⟨_,_,hT⟩ hy
theorem fam_place (hI:Inv B C) {T1:TLook} {r:RId} {ver pv:Nat} {cells:List Cell} {es:List (List AVal)} {i:Nat} {Y:AVal} {c:Cell} (hρ:C.ρ=updL (flat T1) [((r,0,0),.rarr 1 ver es)])
  (hlen:es.length=cells.length) (hci:cells[i]?=some c) (hei:es[i]?=some [Y]) (hL:Laid T1 r pv i Y c us)
  (hoth:∀j cj,j≠i→cells[j]?=some cj→∃A,es[j]?=some [A]∧((∃l,cj=.d l∧(A=.dat (.sl l)∨(A=.nils∧l=[])))∨(cj=.nil∧A=.nils)∨∃fr fz sz l pv0,cj=.own fr fz sz l∧A=cellA r pv0 j cj∧flat T1 (r,j+1,0)=some (.arr sz pv0 fz l)))
  (hk:∀j ob,flat T1 (r,j+1,0)=some ob→∃sz v fz l,ob=.arr sz v fz l∧(v<pv∨((us≠[]→j≠i)∧ob=kidO pv cells[j]?))):
  ∃C':Ctx,C'.w=C.w∧C'.F=C.F∧C'.ρ=flat (updT T1 (us++[(r,.fam ver pv false cells)]))∧Inv B C'∧Grow C C':=by
 have hT':updT T1 (us++[(r,.fam ver pv false cells)]) r=some (.fam ver pv false cells):=by rw[zob7];simp[zza7]
 have hlook:∀id:Id,id≠(r,0,0)→C.ρ id=flat T1 id:=fun id hid=>by
  rw[hρ];simp only[updL];rw[if_neg (fun e=>hid e.symm)]
 have hroot:C.ρ (r,0,0)=some (.rarr 1 ver es):=by rw[hρ];simp[updL]
 have hz:∀x y,y≠0→C.ρ (r,x,y)=none:=by
  intro x y hy;rw[hlook _ (by simp;intro _ e;exact hy e)];exact flat_y hy
 have hrep_d:∀(A:AVal) (l:List Dat),(A=.dat (.sl l)∨(A=.nils∧l=[]))→∀v,RepA C A v→RepV C.F (.sl l) v:=by
  intro A l h v hv;rcases h with rfl|⟨rfl,rfl⟩
  ·simpa only[RepA]using hv
  ·simp only[RepA]at hv;subst hv;exact zhb7 rfl (by simp[RepD])
 have hoth':∀j cj,j≠i→cells[j]?=some cj→∃A,es[j]?=some [A]∧CellSt C r j A cj:=by
  intro j cj hj hcj;obtain⟨A,h1,h2⟩:=hoth j cj hj hcj;refine⟨A,h1,?_⟩;rcases h2 with⟨l,rfl,h2⟩|⟨rfl,rfl⟩|⟨fr,fz,sz,l,pv0,rfl,rfl,h3⟩
  ·exact hrep_d A l h2
  ·rfl
  ·exact⟨zbd7 _ _ _ _,pv0,by rw[hlook _ (by simp)];exact h3,fun e=>by subst e;rfl⟩
 cases hL with
 |data l hY=>
  refine fam_step hI r none hT' hroot hlen (fun j ob hob=>?_) hz (fun id hid _=>?_) (by simp) (fun j cj hcj=>.inr ?_)
  ·rw[hlook _ (by simp)]at hob;obtain⟨sz,v,fz,l',h1,h2⟩:=hk j ob hob;exact⟨sz,v,fz,l',h1,h2.imp id fun h=>⟨by simp,h.2⟩⟩
  ·rw[hlook id (fun e=>hid (by rw[e]))];exact zka7 (by simp only[List.nil_append,zza7];rw[if_neg (fun e=>hid e.symm)])
  ·by_cases e:j=i
   ·subst e;rw[hci]at hcj;cases hcj;exact⟨Y,hei,hrep_d Y l (.inl hY)⟩
   ·exact hoth' j cj e hcj
 |same fz sz l hk1 hY=>
  refine fam_step hI r none hT' hroot hlen (fun j ob hob=>?_) hz (fun id hid _=>?_) (by simp) (fun j cj hcj=>.inr ?_)
  ·rw[hlook _ (by simp)]at hob;obtain⟨sz,v,fz,l',h1,h2⟩:=hk j ob hob;exact⟨sz,v,fz,l',h1,h2.imp id fun h=>⟨by simp,h.2⟩⟩
  ·rw[hlook id (fun e=>hid (by rw[e]))];exact zka7 (by simp only[List.nil_append,zza7];rw[if_neg (fun e=>hid e.symm)])
  ·by_cases e:j=i
   ·subst e;rw[hci]at hcj;cases hcj;refine⟨Y,hei,by rw[hY];simp,pv,by rw[hlook _ (by simp)];exact hk1,fun _=>hY⟩
   ·exact hoth' j cj e hcj
 |moved r2 ver2 sz l hne hT2 hY=>
  have hT2':updT T1 ([(r2,.plain (.arr sz (ver2+1) true []))]++[(r,.fam ver pv false cells)]) r2=some (.plain (.arr sz (ver2+1) true [])):=by
   rw[zob7];simp only[zza7];rw[if_neg (fun e=>hne e.symm),if_pos trivial]
  refine fam_step hI r (some (i,r2)) hT' hroot hlen (fun j ob hob=>?_) hz (fun id hid hmv=>?_) (fun i' r2' e=>?_) (fun j cj hcj=>?_)
  ·rw[hlook _ (by simp)]at hob;obtain⟨sz,v,fz,l',h1,h2⟩:=hk j ob hob;refine⟨sz,v,fz,l',h1,h2.imp id fun h=>⟨fun r2' e=>?_,h.2⟩⟩;simp only[Option.some.injEq,Prod.mk.injEq]at e;exact h.1 (by simp) e.1.symm
  ·rw[hlook id (fun e=>hid (by rw[e]))];refine zka7 ?_;rw[zob7];simp only[zza7];rw[if_neg (fun e=>hid e.symm),if_neg (fun e=>hmv i (by rw[e]))]
  ·simp only[Option.some.injEq,Prod.mk.injEq]at e;obtain⟨rfl,rfl⟩:=e;refine⟨hne,⟨sz,ver2,l,?_,hT2',hci,by rw[hei,hY]⟩,fun p hp=>?_⟩
   ·rw[hlook _ (by simp;exact fun e=>hne e)];exact zxa7 hT2
   ·rw[hlook _ (by simp;exact fun e=>absurd e hne)];exact zbb7 hT2 hp
  ·by_cases e:j=i
   ·subst e;exact .inl ⟨r2,rfl⟩
   ·exact .inr (hoth' j cj e hcj)
theorem any_fst {us:List (RId×TObj)} {r:RId} (h:us.any (fun u=>u.1==r)=false):∀(T:TLook),updT T us r=T r:=by
 induction us with
 |nil=>intro T;rfl
 |cons u us ih=>
  intro T;simp only[List.any_cons,Bool.or_eq_false_iff,beq_eq_false_iff_ne]at h;obtain⟨r',o'⟩:=u;simp only[updT];rw[ih h.2];exact if_neg h.1
theorem cellIn_ok (hI:Inv B C) (hρ:C.ρ=flat T) {r:RId} {pv i:Nat} {old:Option Cell} {mv b:Bool} {w:AVal} {c:Cell} (h:cellIn T r pv old i mv w=some (c,b,us)) (pv2:Nat)
  (hold:∀fr fz sz l,old=some (.own fr fz sz l)→b=false→pv2=pv∧flat T (r,i+1,0)=some (.arr sz pv fz l)):
  ∃T1 C1 Y us2,C1.w=C.w∧C1.ρ=flat T1∧Inv B C1∧Grow C C1∧(∀val,RepA C w val→RepA C1 Y val)∧Laid T1 r pv2 i Y c us2∧T1 r=T r∧(∀tl,updT T1 (us2++tl)=updT T (us++tl))∧(us2≠[]→b=true)∧Y.cells=[Y]∧Y.leaf=true:=by
 rcases cellIn_cases h with⟨l,hd,hany,rfl,hb⟩|⟨fr,fz,sz,l,e1,rfl,rfl,rfl,rfl⟩|⟨r2,ver,sz,l,hne,hT,rfl,rfl,rfl,rfl⟩
 ·obtain⟨C1,h1,h2,h3,h4,h5⟩:=decT_ok hI hρ hd;refine⟨updT T us,C1,.dat (.sl l),[],h1,h2,h3,h4,fun val hv=>?_,.data l rfl,any_fst hany T,fun tl=>by rw[List.nil_append,zob7],by simp,rfl,rfl⟩;simp only[RepA];exact h5 val hv
 ·obtain⟨rfl,hk⟩:=hold fr fz sz l e1 rfl;exact⟨T,C,_,[],rfl,hρ,hI,Grow.refl C,fun val hv=>hv,.same fz sz l hk rfl,rfl,fun tl=>rfl,by simp,rfl,rfl⟩
 ·exact⟨T,C,_,[(r2,.plain (.arr sz (ver+1) true []))],rfl,hρ,hI,Grow.refl C,fun val hv=>hv,.moved r2 ver sz l hne hT rfl,rfl,fun tl=>rfl,by simp,rfl,rfl⟩
theorem cOp_st {mv:Bool} {n:Nat} {ax av:AX} (hc:cOp P m o=some (.st mv n ax av)):
  ∃t x y q,o.op=.store t x y∧cX x=some ax∧cX y=some av∧tI P t=some q∧1≤q.size∧n=q.size:=by
 unfold cOp at hc;split at hc
 all_goals (try (repeat' split at hc))<;>(try (simp at hc;done))
 rename_i _ t x y hop _ _ _ i ax' av' hq hx hy hq1;simp only[Option.some.injEq,AK.st.injEq]at hc;obtain⟨_,rfl,rfl,rfl⟩:=hc;exact⟨t,x,y,i,hop,hx,hy,hq,hq1,rfl⟩
theorem stF_ok (hI:Inv B C) (hρ:C.ρ=flat T) (hE:RepE C g a) {mv:Bool} {ax av:AX} {r:RId} {ver pv i:Nat} {cells:List Cell} (hc:cOp P m o=some (.st mv 1 ax av))
  (hX:evX g ax=.eref (r,0,0) ver i 0) (hT:T r=some (.fam ver pv false cells)) (h:stF T mv r ver pv i cells (evX g av)=some (v,us)):Does P o a C.w (OwesT B C T v us):=by
 obtain⟨t,x,y,q,ho,hx,hy,hq,hq1,hn⟩:=cOp_st hc;have hrx:=zea7 hE hx;have hry:=zea7 hE hy;rw[hX]at hrx;unfold stF at h;split at h
 ·cases h
 ·rename_i old hold;split at h
  ·cases h
  ·rename_i c b us' hcell;simp only[Option.some.injEq,Prod.mk.injEq]at h;obtain⟨rfl,rfl⟩:=h;have hi:=(List.getElem?_eq_some_iff.1 hold).1
   obtain⟨T1,C1,Y,us2,e1,e2,e3,e4,e5,e6,e7,e8,e9,e10,e11⟩:=cellIn_ok hI hρ hcell (if b then pv+1 else pv) (fun fr fz sz l ho hb=>by
    subst hb;cases ho;exact⟨rfl,by rw[zac7 hT,hold];rfl⟩)
   have hT1:T1 r=some (.fam ver pv false cells):=by rw[e7];exact hT
   have hroot:C1.ρ (r,0,0)=some (.rarr 1 ver (rowsA r pv 0 cells)):=by rw[e2,zec7 hT1];rfl
   have hrow:(rowsA r pv 0 cells)[i]?=some [cellA r pv i old]:=by rw[zjb7,hold];simp
   have hst:storeE C1.ρ q.size (.eref (r,0,0) ver i 0) Y=some [((r,0,0),.rarr 1 ver ((rowsA r pv 0 cells).set i [Y]))]:=by
    unfold storeE;simp only[hroot,hrow];rw[if_pos ⟨trivial,by rw[e10,←hn];rfl,by rw[←hn];simp,by rw[e10];simp[e11]⟩];simp[splice,e10]
   have hdo:=op_st' e3 ho (hrx.grow e4) (e5 _ hry) hq hq1 hst;rw[e1]at hdo;refine hdo.mono fun val w' ⟨C',h1,h2,h3,h4,h5⟩=>?_
   obtain⟨C2,k1,k2,k3,k4,k5⟩:=fam_place (T1:=T1) (us:=us2) (r:=r) (ver:=ver) (pv:=if b then pv+1 else pv) (cells:=cells.set i c) (es:=(rowsA r pv 0 cells).set i [Y]) (i:=i) (Y:=Y) (c:=c) h3 (by rw[h2,e2])
    (by simp[zia7]) (by simp[hi]) (by rw[List.getElem?_set_self (by rw[zia7];exact hi)]) e6 (fun j cj hj hcj=>by
     rw[List.getElem?_set_ne (fun e=>hj e.symm)]at hcj;refine⟨cellA r pv j cj,by rw[List.getElem?_set_ne (fun e=>hj e.symm),zjb7,hcj];simp,?_⟩;cases cj with
     |nil=>exact .inr (.inl ⟨rfl,rfl⟩)
     |d l=>exact .inl ⟨l,rfl,.inl rfl⟩
     |own fr fz sz l=>exact .inr (.inr ⟨fr,fz,sz,l,pv,rfl,rfl,by rw[zac7 hT1,hcj];rfl⟩))
    (fun j ob hob=>by
     rw[zac7 hT1]at hob;simp only[Option.some.injEq]at hob;obtain⟨sz,fz,l,q⟩:=zhc7 pv cells[j]?;rw[q]at hob;refine⟨sz,pv,fz,l,hob.symm,?_⟩;cases b with
     |true=>exact .inl (by simp)
     |false=>
      right;refine⟨fun e=>by have:=e9 e;simp at this,?_⟩;simp only[Bool.false_eq_true,if_false];rw[kidO_set _ _ _ _ _ hi,←hob,←q];by_cases e:i=j
      ·subst e;simp only[if_true];rcases cellIn_cases hcell with⟨l',_,_,rfl,hb⟩|⟨fr',fz',sz',l',e1',_,rfl,_,_⟩|⟨_,_,_,_,_,_,_,_,hb,_⟩
       ·have:=hb rfl;rw[hold];cases old with
        |nil=>rfl
        |d l=>rfl
        |own fr fz sz l=>exact absurd rfl (this fr fz sz l)
       ·cases e1';rw[hold];rfl
       ·cases hb
      ·rw[if_neg e])
   exact⟨C2,k1.trans h1,by rw[k3,e8],k4,(e4.trans h4).trans k5,h5.grow k5⟩
theorem opE_mk_r {sz bytes:Nat} {zero:List AVal} {l c:AX} {ρ:Look} {v:AVal} {upd:List (Id×Obj)} (h:opE site (.mk .r sz bytes zero l c) g ρ=some (v,upd)):
  ∃nv n,v=.rsl (nid site) nv sz 0 n∧upd=[(nid site,.rarr sz nv (List.replicate n zero))]:=by
 simp only[opE]at h;split at h
 ·split at h
  ·split at h
   ·split at h
    ·simp only[Option.some.injEq,Prod.mk.injEq]at h;obtain⟨rfl,rfl⟩:=h;exact⟨_,_,rfl,rfl⟩
    ·cases h
   ·cases h
  ·cases h
 ·cases h
theorem opE_mvNil_r {sz:Nat} {ρ:Look} {v:AVal} {upd:List (Id×Obj)} (h:opE site (.mvNil .r sz) g ρ=some (v,upd)):
  ∃nv,v=.rsl (nid site) nv sz 0 0∧upd=[(nid site,.rarr sz nv [])]:=by
 simp only[opE]at h;split at h
 ·cases h
 ·split at h
  ·simp only[Option.some.injEq,Prod.mk.injEq]at h;obtain⟨rfl,rfl⟩:=h;exact⟨_,rfl,rfl⟩
  ·cases h
theorem pvN_kid {r:RId} {j:Nat} {ob:Obj} (h:flat T (r,j+1,0)=some ob):∃sz v fz l,ob=.arr sz v fz l∧v<pvN T r:=by
 rcases flat_not_fam h (by simp) with⟨ver,pv,fz,cells,hT⟩|⟨pv,es,hT⟩
 ·rw[zac7 hT]at h;obtain⟨sz,fz',l,q⟩:=zhc7 pv cells[j]?;rw[q]at h;simp only[Option.some.injEq]at h;exact⟨sz,pv,fz',l,h.symm,by simp[pvN,hT]⟩
 ·rw[zme7 hT]at h;obtain⟨sz,fz',l,q⟩:=zhc7 pv (es[j]?.map (·.2));rw[q]at h;simp only[Option.some.injEq]at h;exact⟨sz,pv,fz',l,h.symm,by simp[pvN,hT]⟩
theorem fam_new (hI:Inv B C) {r:RId} {nv n:Nat} (hρ:C.ρ=updL (flat T) [((r,0,0),.rarr 1 nv (List.replicate n [.nils]))]):
  ∃C':Ctx,C'.w=C.w∧C'.F=C.F∧C'.ρ=flat (updT T [(r,.fam nv (pvN T r) false (List.replicate n .nil))])∧Inv B C'∧Grow C C':=by
 have hT':updT T [(r,.fam nv (pvN T r) false (List.replicate n .nil))] r=some (.fam nv (pvN T r) false (List.replicate n .nil)):=by simp[zza7]
 have hlook:∀id:Id,id≠(r,0,0)→C.ρ id=flat T id:=fun id hid=>by
  rw[hρ];simp only[updL];rw[if_neg (fun e=>hid e.symm)]
 refine fam_step hI r none (es:=List.replicate n [.nils]) hT' (by rw[hρ];simp[updL]) (by simp) (fun j ob hob=>?_) (fun x y hy=>?_) (fun id hid _=>?_) (by simp) (fun j cj hcj=>.inr ?_)
 ·rw[hlook _ (by simp)]at hob;obtain⟨sz,v,fz,l,h1,h2⟩:=pvN_kid hob;exact⟨sz,v,fz,l,h1,.inl h2⟩
 ·rw[hlook _ (by simp;intro _ e;exact hy e)];exact flat_y hy
 ·rw[hlook id (fun e=>hid (by rw[e]))];exact zka7 (by simp only[zza7];rw[if_neg (fun e=>hid e.symm)])
 ·rw[List.getElem?_replicate]at hcj;split at hcj
  ·rename_i hj;simp only[Option.some.injEq]at hcj;subst hcj;exact⟨.nils,by rw[List.getElem?_replicate,if_pos hj],rfl⟩
  ·cases hcj
theorem cOp_mk {sz bytes:Nat} {zero:List AVal} {l c:AX} (hc:cOp P m o=some (.mk .f sz bytes zero l c)):cOp P { m with md:=.r } o=some (.mk .r sz bytes zero l c):=by
 unfold cOp at hc;split at hc
 all_goals (try (repeat' split at hc))<;>(try (simp at hc;done))
 rename_i _ t x y hop _ _ _ i al ac hi hl hcc;obtain⟨z,hz,he⟩:=zda7 hc;simp only[AK.mk.injEq]at he;obtain⟨_,rfl,rfl,rfl,rfl,rfl⟩:=he;unfold cOp;simp only[hop,hi,hl,hcc,hz,Option.map_some]
theorem cOp_mvNil {sz:Nat} (hc:cOp P m o=some (.mvNil .f sz)):cOp P { m with md:=.r } o=some (.mvNil .r sz):=by
 unfold cOp at hc;split at hc
 all_goals (try (repeat' split at hc))<;>(try (simp at hc;done))
 all_goals (try (obtain⟨z,hz,he⟩:=zda7 hc;simp at he;done))
 all_goals
  rename_i _ _ _ hop _ i hi hsz;simp only[Option.some.injEq,AK.mvNil.injEq]at hc;obtain⟨_,rfl⟩:=hc;unfold cOp;simp[hop,hi,hsz]
theorem cOp_app {sz bytes:Nat} {ax ay:AX} {md:Md} (hc:cOp P m o=some (.app md sz bytes ax ay)):
  ∃c x y sT xT e q,o.op=.call c∧c.callee=.builtin .append∧c.args=#[x,y]∧c.argTypes[0]?=some sT∧c.argTypes[1]?=some xT∧P.underlying sT=some (.slice e)∧
   ((∃e',P.underlying xT=some (.slice e'))∨P.underlying xT=some .string)∧tI P e=some q∧(∃l,q.zero=some l∧l.length=q.size)∧1≤q.size∧cX x=some ax∧cX y=some ay∧sz=q.size∧bytes=q.bytes:=by
 unfold cOp at hc;split at hc
 all_goals (try (repeat' split at hc))<;>(try (simp at hc;done))
 all_goals (try (obtain⟨z,hz,he⟩:=zda7 hc;simp at he;done))
 ·rename_i _ c hop _ _ ax' ay' hcal hargs _ _ q e' hq hxt hz;simp only[Option.some.injEq,AK.app.injEq]at hc;obtain⟨_,rfl,rfl,rfl,rfl⟩:=hc;obtain⟨x,y,ha,hx,hy⟩:=cXs_two hargs;obtain⟨sT,e,h0,hs,hqe⟩:=zge7 hq;obtain⟨hzl,hsz⟩:=zok_spec hz;cases e1:c.argTypes[1]? with
  |none=>simp[e1]at hxt
  |some xT=>exact⟨c,x,y,sT,xT,e,q,hop,hcal,ha,h0,e1,hs,.inl ⟨e',by simpa[e1]using hxt⟩,hqe,hzl,hsz,hx,hy,rfl,rfl⟩
 ·rename_i _ c hop _ _ ax' ay' hcal hargs _ _ q hq hxt hz;simp only[Option.some.injEq,AK.app.injEq]at hc;obtain⟨_,rfl,rfl,rfl,rfl⟩:=hc;obtain⟨x,y,ha,hx,hy⟩:=cXs_two hargs;obtain⟨sT,e,h0,hs,hqe⟩:=zge7 hq;obtain⟨hzl,hsz⟩:=zok_spec hz;cases e1:c.argTypes[1]? with
  |none=>simp[e1]at hxt
  |some xT=>exact⟨c,x,y,sT,xT,e,q,hop,hcal,ha,h0,e1,hs,.inr (by simpa[e1]using hxt),hqe,hzl,hsz,hx,hy,rfl,rfl⟩
theorem lits_one {C C1:Ctx} {w Y:AVal} {val:Value} (hg:Grow C C1) (h:RepA C (.lits 1 1 [w]) val) (hw:∀u,RepA C w u→RepA C1 Y u) (hY:Y.leaf=true):RepA C1 (.lits 1 1 [Y]) val:=by
 simp only[RepA]at h ⊢;obtain⟨b,x,cap,cs,h1,h2,h3,h4,h5,h6,h7⟩:=h;refine⟨b,x,cap,cs,h1,h2,h3,?_,h5.mono hg.F,by simp[hY],h7⟩;simp only[RepL]at h4 ⊢;obtain⟨c,cs',rfl,h8,h9⟩:=h4;exact⟨c,cs',rfl,hw c h8,h9⟩
theorem appF_ok (hI:Inv B C) (hρ:C.ρ=flat T) (hE:RepE C g a) {bytes:Nat} {ax ay:AX} (hc:cOp P m o=some (.app .f 1 bytes ax ay)) (h:appF site bytes (evX g ax) (evX g ay) T=some (v,us)):Does P o a C.w (OwesT B C T v us):=by
 obtain⟨c,x,y,sT,xT,e,q,ho,hcal,ha,h0,h1,hs,hxt,hq,hok,hq1,hx,hy,hq2,rfl⟩:=cOp_app hc;have hrx:=zea7 hE hx;have hry:=zea7 hE hy;unfold appF at h;split at h
 ·rename_i w hY;rw[hY]at hry;split at h
  ·rename_i r ver len hX;rw[hX]at hrx;split at h
   ·rename_i ver' pv cells hT;split at h
    ·rename_i hcond;obtain⟨rfl,hlen,hroom⟩:=hcond;split at h
     ·rename_i cc b us' hcell;simp only[Option.some.injEq,Prod.mk.injEq]at h;obtain⟨rfl,rfl⟩:=h;obtain⟨T1,C1,Y,us2,e1,e2,e3,e4,e5,e6,e7,e8,e9,e10,e11⟩:=cellIn_ok hI hρ hcell (pv+1) (fun fr fz sz l ho=>by cases ho);have hT1:T1 r=some (.fam ver pv false cells):=by rw[e7];exact hT
      have hroot:C1.ρ (r,0,0)=some (.rarr 1 ver (rowsA r pv 0 cells)):=by rw[e2,zec7 hT1];rfl
      have hdo:=op_appR' (P:=P) (a:=a) e3 ho hcal ha h0 h1 hs hxt hq hok (id:=(r,0,0)) (ver:=ver) (len:=len) (ay:=.lits 1 1 [Y]) (es0:=rowsA r pv 0 cells) (rows:=[[Y]]) (by rw[←hq2];exact hrx.grow e4) (by rw[←hq2];rfl) (lits_one e4 hry e5 e11)
       (by rw[←hq2];exact hroot) (by rw[zia7];exact Nat.le_of_eq hlen) (by simp) (by simpa using hroom)
      have hpn:preN len (rowsA r pv 0 cells)=rowsA r pv 0 cells:=by unfold preN;rw[if_pos (by rw[zia7];exact hlen)]
      rw[hpn]at hdo;rw[e1,←hq2]at hdo;refine hdo.mono fun val w' ⟨C',g1,g2,g3,g4,g5⟩=>?_
      obtain⟨C2,k1,k2,k3,k4,k5⟩:=fam_place (T1:=T1) (us:=us2) (r:=r) (ver:=ver+1) (pv:=pv+1) (cells:=cells++[cc]) (es:=rowsA r pv 0 cells++[[Y]]) (i:=cells.length) (Y:=Y) (c:=cc) g3 (by rw[g2,e2])
       (by simp[zia7]) (by simp) (by rw[List.getElem?_append_right (by rw[zia7];exact Nat.le_refl _),zia7];simp) e6 (fun j cj hj hcj=>by
        have hlt:j<cells.length:=by
         have:=(List.getElem?_eq_some_iff.1 hcj).1;simp at this;omega
        rw[List.getElem?_append_left hlt]at hcj;refine⟨cellA r pv j cj,by rw[List.getElem?_append_left (by rw[zia7];exact hlt),zjb7,hcj];simp,?_⟩;cases cj with
        |nil=>exact .inr (.inl ⟨rfl,rfl⟩)
        |d l=>exact .inl ⟨l,rfl,.inl rfl⟩
        |own fr fz sz l=>exact .inr (.inr ⟨fr,fz,sz,l,pv,rfl,rfl,by rw[zac7 hT1,hcj];rfl⟩))
       (fun j ob hob=>by
        rw[zac7 hT1]at hob;simp only[Option.some.injEq]at hob;obtain⟨sz,fz,l,q⟩:=zhc7 pv cells[j]?;rw[q]at hob;exact⟨sz,pv,fz,l,hob.symm,.inl (Nat.lt_succ_self _)⟩)
      exact⟨C2,k1.trans g1,by rw[k3,e8],k4,(e4.trans g4).trans k5,g5.grow k5⟩
     ·cases h
    ·cases h
   ·cases h
  ·rename_i hX;rw[hX]at hrx;split at h
   ·rename_i nv hnv;split at h
    ·rename_i hroom;split at h
     ·rename_i cc b us' hcell;simp only[Option.some.injEq,Prod.mk.injEq]at h;obtain⟨rfl,rfl⟩:=h;obtain⟨T1,C1,Y,us2,e1,e2,e3,e4,e5,e6,e7,e8,e9,e10,e11⟩:=cellIn_ok hI hρ hcell (pvN T (site+1,0)) (fun fr fz sz l ho=>by cases ho)
      have hnv1:zwa7 C1.ρ (nid site)=some nv:=by
       rw[e2];have:flat T1 (nid site)=flat T (nid site):=zka7 e7;unfold zwa7 at hnv ⊢;rw[this];exact hnv
      have hpv:pvN T1 (site+1,0)=pvN T (site+1,0):=by unfold pvN;rw[e7]
      have hdo:=zff7 (P:=P) (a:=a) e3 ho hcal ha h0 h1 hs hxt hq hok hq1 (site:=site) (nv:=nv) (ay:=.lits 1 1 [Y]) (rows:=[[Y]]) (by have:=hrx.grow e4;simp only[RepA]at this;exact⟨_,this⟩) (by rw[←hq2];rfl) (lits_one e4 hry e5 e11) hnv1 (by simp) (by simpa using hroom);rw[e1,←hq2]at hdo;refine hdo.mono fun val w' ⟨C',g1,g2,g3,g4,g5⟩=>?_
      obtain⟨C2,k1,k2,k3,k4,k5⟩:=fam_place (T1:=T1) (us:=us2) (r:=(site+1,0)) (ver:=nv) (pv:=pvN T (site+1,0)) (cells:=[cc]) (es:=[[Y]]) (i:=0) (Y:=Y) (c:=cc) g3 (by rw[g2,e2])
       rfl rfl rfl e6 (fun j cj hj hcj=>by
        cases j with
        |zero=>exact absurd rfl hj
        |succ j=>simp at hcj)
       (fun j ob hob=>by
        obtain⟨sz,v,fz,l,h1,h2⟩:=pvN_kid hob;rw[hpv]at h2;exact⟨sz,v,fz,l,h1,.inl h2⟩)
      exact⟨C2,k1.trans g1,by rw[k3,e8],k4,(e4.trans g4).trans k5,g5.grow k5⟩
     ·cases h
    ·cases h
   ·cases h
  ·rename_i hX;rw[hX]at hrx;split at h
   ·rename_i nv hnv;split at h
    ·rename_i hroom;split at h
     ·rename_i cc b us' hcell;simp only[Option.some.injEq,Prod.mk.injEq]at h;obtain⟨rfl,rfl⟩:=h;obtain⟨T1,C1,Y,us2,e1,e2,e3,e4,e5,e6,e7,e8,e9,e10,e11⟩:=cellIn_ok hI hρ hcell (pvN T (site+1,0)) (fun fr fz sz l ho=>by cases ho)
      have hnv1:zwa7 C1.ρ (nid site)=some nv:=by
       rw[e2];have:flat T1 (nid site)=flat T (nid site):=zka7 e7;unfold zwa7 at hnv ⊢;rw[this];exact hnv
      have hpv:pvN T1 (site+1,0)=pvN T (site+1,0):=by unfold pvN;rw[e7]
      have hdo:=zff7 (P:=P) (a:=a) e3 ho hcal ha h0 h1 hs hxt hq hok hq1 (site:=site) (nv:=nv) (ay:=.lits 1 1 [Y]) (rows:=[[Y]]) (by have:=hrx.grow e4;simp only[RepA]at this;exact this) (by rw[←hq2];rfl) (lits_one e4 hry e5 e11) hnv1 (by simp) (by simpa using hroom);rw[e1,←hq2]at hdo;refine hdo.mono fun val w' ⟨C',g1,g2,g3,g4,g5⟩=>?_
      obtain⟨C2,k1,k2,k3,k4,k5⟩:=fam_place (T1:=T1) (us:=us2) (r:=(site+1,0)) (ver:=nv) (pv:=pvN T (site+1,0)) (cells:=[cc]) (es:=[[Y]]) (i:=0) (Y:=Y) (c:=cc) g3 (by rw[g2,e2])
       rfl rfl rfl e6 (fun j cj hj hcj=>by
        cases j with
        |zero=>exact absurd rfl hj
        |succ j=>simp at hcj)
       (fun j ob hob=>by
        obtain⟨sz,v,fz,l,h1,h2⟩:=pvN_kid hob;rw[hpv]at h2;exact⟨sz,v,fz,l,h1,.inl h2⟩)
      exact⟨C2,k1.trans g1,by rw[k3,e8],k4,(e4.trans g4).trans k5,g5.grow k5⟩
     ·cases h
    ·cases h
   ·cases h
  ·cases h
 ·cases h
theorem mapf_place (hI:Inv B C) {T1:TLook} {r:RId} {pv:Nat} {cells:List (Dat×Cell)} {es:List (Dat×AVal)} {i:Nat} {kd:Dat} {Y:AVal} {c:Cell} (hρ:C.ρ=updL (flat T1) [((r,0,0),.blk (.map es))])
  (hlen:es.length=cells.length) (hci:cells[i]?=some (kd,c)) (hei:es[i]?=some (kd,Y)) (hL:Laid T1 r pv i Y c us)
  (hoth:∀j k cj,j≠i→cells[j]?=some (k,cj)→∃A,es[j]?=some (k,A)∧((∃l,cj=.d l∧A=.dat (.sl l))∨(cj=.nil∧A=.nils)∨∃fr fz sz l pv0,cj=.own fr fz sz l∧A=cellA r pv0 j cj∧flat T1 (r,j+1,0)=some (.arr sz pv0 fz l)))
  (hk:∀j ob,flat T1 (r,j+1,0)=some ob→∃sz v fz l,ob=.arr sz v fz l∧(v<pv∨((us≠[]→j≠i)∧ob=kidO pv (cells[j]?.map (·.2))))):
  ∃C':Ctx,C'.w=C.w∧C'.F=C.F∧C'.ρ=flat (updT T1 (us++[(r,.mapf pv cells)]))∧Inv B C'∧Grow C C':=by
 have hT':updT T1 (us++[(r,.mapf pv cells)]) r=some (.mapf pv cells):=by rw[zob7];simp[zza7]
 have hlook:∀id:Id,id≠(r,0,0)→C.ρ id=flat T1 id:=fun id hid=>by
  rw[hρ];simp only[updL];rw[if_neg (fun e=>hid e.symm)]
 have hroot:C.ρ (r,0,0)=some (.blk (.map es)):=by rw[hρ];simp[updL]
 have hz:∀x y,y≠0→C.ρ (r,x,y)=none:=by
  intro x y hy;rw[hlook _ (by simp;intro _ e;exact hy e)];exact flat_y hy
 have hrep_d:∀(A:AVal) (l:List Dat),A=.dat (.sl l)→∀v,RepA C A v→RepV C.F (.sl l) v:=by
  intro A l h v hv;subst h;simpa only[RepA]using hv
 have hoth':∀j k cj,j≠i→cells[j]?=some (k,cj)→∃A,es[j]?=some (k,A)∧CellSt C r j A cj:=by
  intro j k cj hj hcj;obtain⟨A,h1,h2⟩:=hoth j k cj hj hcj;refine⟨A,h1,?_⟩;rcases h2 with⟨l,rfl,h2⟩|⟨rfl,rfl⟩|⟨fr,fz,sz,l,pv0,rfl,rfl,h3⟩
  ·exact hrep_d A l h2
  ·rfl
  ·exact⟨zbd7 _ _ _ _,pv0,by rw[hlook _ (by simp)];exact h3,fun e=>by subst e;rfl⟩
 cases hL with
 |data l hY=>
  refine mapf_step hI r none hT' hroot hlen (fun j ob hob=>?_) hz (fun id hid _=>?_) (by simp) (fun j k cj hcj=>.inr ?_)
  ·rw[hlook _ (by simp)]at hob;obtain⟨sz,v,fz,l',h1,h2⟩:=hk j ob hob;exact⟨sz,v,fz,l',h1,h2.imp id fun h=>⟨by simp,h.2⟩⟩
  ·rw[hlook id (fun e=>hid (by rw[e]))];exact zka7 (by simp only[List.nil_append,zza7];rw[if_neg (fun e=>hid e.symm)])
  ·by_cases e:j=i
   ·subst e;rw[hci]at hcj;cases hcj;exact⟨Y,hei,hrep_d Y l hY⟩
   ·exact hoth' j k cj e hcj
 |same fz sz l hk1 hY=>
  refine mapf_step hI r none hT' hroot hlen (fun j ob hob=>?_) hz (fun id hid _=>?_) (by simp) (fun j k cj hcj=>.inr ?_)
  ·rw[hlook _ (by simp)]at hob;obtain⟨sz,v,fz,l',h1,h2⟩:=hk j ob hob;exact⟨sz,v,fz,l',h1,h2.imp id fun h=>⟨by simp,h.2⟩⟩
  ·rw[hlook id (fun e=>hid (by rw[e]))];exact zka7 (by simp only[List.nil_append,zza7];rw[if_neg (fun e=>hid e.symm)])
  ·by_cases e:j=i
   ·subst e;rw[hci]at hcj;cases hcj;refine⟨Y,hei,by rw[hY];simp,pv,by rw[hlook _ (by simp)];exact hk1,fun _=>hY⟩
   ·exact hoth' j k cj e hcj
 |moved r2 ver2 sz l hne hT2 hY=>
  have hT2':updT T1 ([(r2,.plain (.arr sz (ver2+1) true []))]++[(r,.mapf pv cells)]) r2=some (.plain (.arr sz (ver2+1) true [])):=by
   rw[zob7];simp only[zza7];rw[if_neg (fun e=>hne e.symm),if_pos trivial]
  refine mapf_step hI r (some (i,r2)) hT' hroot hlen (fun j ob hob=>?_) hz (fun id hid hmv=>?_) (fun i' r2' e=>?_) (fun j k cj hcj=>?_)
  ·rw[hlook _ (by simp)]at hob;obtain⟨sz,v,fz,l',h1,h2⟩:=hk j ob hob;refine⟨sz,v,fz,l',h1,h2.imp id fun h=>⟨fun r2' e=>?_,h.2⟩⟩;simp only[Option.some.injEq,Prod.mk.injEq]at e;exact h.1 (by simp) e.1.symm
  ·rw[hlook id (fun e=>hid (by rw[e]))];refine zka7 ?_;rw[zob7];simp only[zza7];rw[if_neg (fun e=>hid e.symm),if_neg (fun e=>hmv i (by rw[e]))]
  ·simp only[Option.some.injEq,Prod.mk.injEq]at e;obtain⟨rfl,rfl⟩:=e;refine⟨hne,⟨sz,ver2,l,kd,?_,hT2',hci,by rw[hei,hY]⟩,fun p hp=>?_⟩
   ·rw[hlook _ (by simp;exact fun e=>hne e)];exact zxa7 hT2
   ·rw[hlook _ (by simp;exact fun e=>absurd e hne)];exact zbb7 hT2 hp
  ·by_cases e:j=i
   ·subst e;exact .inl ⟨r2,rfl⟩
   ·exact .inr (hoth' j k cj e hcj)
theorem findE_ents {ag:Bool} {sh:List Sh} {kd:Dat} (r:RId) (pv:Nat):∀(i:Nat) (es:List (Dat×Cell)),findE ag sh kd (entsA r pv i es)=findE ag sh kd es
 |_,[]=>rfl
 |i,e::es=>by simp only[entsA,findE,findE_ents r pv (i+1) es]
theorem cOp_mup {ag:Bool} {sh:List Sh} {am ak av:AX} (hc:cOp P m o=some (.mup ag sh am ak av)):
  ∃t kt et q x k y,o.op=.mapUpdate t x k y∧cX x=some am∧cX k=some ak∧cX y=some av∧mapT P t=some (kt,sh,et,q)∧ag=aggK P kt:=by
 unfold cOp at hc;split at hc
 all_goals (try (repeat' split at hc))<;>(try (simp at hc;done))
 rename_i _ t x k y hop _ _ _ _ kt sh' et q am' ak' av' hT hx hk hy;simp only[Option.some.injEq,AK.mup.injEq]at hc;obtain⟨rfl,rfl,rfl,rfl,rfl⟩:=hc;exact⟨t,kt,et,q,x,k,y,hop,hx,hk,hy,hT,rfl⟩
theorem mupF_core (hI:Inv B C) (hρ:C.ρ=flat T) {t kt et:TypeId} {q:TI} {x k y:Operand} {sh:List Sh} (ho:o.op=.mapUpdate t x k y) (hmT:mapT P t=some (kt,sh,et,q)) {r:RId} {pv i:Nat} {es cells:List (Dat×Cell)} {kd:Dat} {w:AVal} {c:Cell} {b:Bool}
  (hrx:RepA C (.bref false (r,0,0)) (a.eval x)) (k1:RepV C.F kd (a.eval k)) (k2:kd.isAgg=aggK P kt) (k3:zra7 sh kd.cells kd.cells=some true) (hry:RepA C w (a.eval y))
  (hT:T r=some (.mapf pv es)) (hcell:cellIn T r pv (es[i]?.map (·.2)) i true w=some (c,b,us)) (hci:cells[i]?=some (kd,c)) (hco:∀j,j≠i→cells[j]?=es[j]?)
  (hput:∀Y,∃es1,putM (aggK P kt) sh kd Y (entsA r pv 0 es)=some es1∧es1.length=cells.length∧es1[i]?=some (kd,Y)∧∀j,j≠i→es1[j]?=(entsA r pv 0 es)[j]?):
  Does P o a C.w (OwesT B C T (.tup []) (us++[(r,.mapf (if b then pv+1 else pv) cells)])):=by
 obtain⟨T1,C1,Y,us2,e1,e2,e3,e4,e5,e6,e7,e8,e9,e10,e11⟩:=cellIn_ok hI hρ hcell (if b then pv+1 else pv) (fun fr fz sz l ho hb=>by
  subst hb;refine⟨rfl,?_⟩;rw[zme7 hT,ho];rfl)
 have hT1:T1 r=some (.mapf pv es):=by rw[e7];exact hT
 have hroot:C1.ρ (r,0,0)=some (.blk (.map (entsA r pv 0 es))):=by rw[e2,flatM_root hT1]
 obtain⟨es1,p1,p2,p3,p4⟩:=hput Y;have hdo:=mup_put e3 ho hmT (hrx.grow e4) (k1.mono e4.F) k2 k3 hroot (e5 _ hry) p1;rw[e1]at hdo;refine hdo.mono fun val w' ⟨C',h1,h2,h3,h4,h5⟩=>?_
 obtain⟨C2,q1,q2,q3,q4,q5⟩:=mapf_place (T1:=T1) (us:=us2) (r:=r) (pv:=if b then pv+1 else pv) (cells:=cells) (es:=es1) (i:=i) (kd:=kd) (Y:=Y) (c:=c) h3 (by rw[h2,e2])
  p2 hci p3 e6 (fun j k cj hj hcj=>by
   rw[hco j hj]at hcj;refine⟨cellA r pv j cj,by rw[p4 j hj,entsA_get,hcj];simp,?_⟩;cases cj with
   |nil=>exact .inr (.inl ⟨rfl,rfl⟩)
   |d l=>exact .inl ⟨l,rfl,rfl⟩
   |own fr fz sz l=>exact .inr (.inr ⟨fr,fz,sz,l,pv,rfl,rfl,by rw[zme7 hT1,hcj];rfl⟩))
  (fun j ob hob=>by
   rw[zme7 hT1]at hob;simp only[Option.some.injEq]at hob;obtain⟨sz,fz,l,q⟩:=zhc7 pv (es[j]?.map (·.2));rw[q]at hob;refine⟨sz,pv,fz,l,hob.symm,?_⟩;cases b with
   |true=>exact .inl (by simp)
   |false=>
    right;refine⟨fun e=>by have:=e9 e;simp at this,?_⟩;simp only[Bool.false_eq_true,if_false];rw[←hob,←q];by_cases e:j=i
    ·subst e;rw[hci];rcases cellIn_cases hcell with⟨l',_,_,rfl,hb⟩|⟨fr',fz',sz',l',e1',_,rfl,_,_⟩|⟨_,_,_,_,_,_,_,_,hb,_⟩
     ·have:=hb rfl;cases hold:es[j]?.map (·.2) with
      |none=>rfl
      |some old=>
       cases old with
       |nil=>rfl
       |d l=>rfl
       |own fr fz sz l=>exact absurd hold (this fr fz sz l)
     ·rw[e1'];rfl
     ·cases hb
    ·rw[hco j e])
 exact⟨C2,q1.trans h1,by rw[q3,e8],q4,(e4.trans h4).trans q5,h5.grow q5⟩
theorem findE_lt {ag:Bool} {sh:List Sh} {kd:Dat} {β:Type}:∀{es:List (Dat×β)} {i:Nat},findE ag sh kd es=some (some i)→i<es.length
 |[],i,h=>by simp[findE]at h
 |e::r,i,h=>by
  simp only[findE]at h;split at h
  ·cases h
  ·split at h
   ·simp at h;subst h;simp
   ·split at h
    ·rename_i j hj;simp at h;subst h;have:=findE_lt hj;simp;omega
    ·cases h
    ·cases h
   ·cases h
theorem mupF_ok (hI:Inv B C) (hρ:C.ρ=flat T) (hE:RepE C g a) {ag:Bool} {sh:List Sh} {am ak av:AX} {r:RId} {pv:Nat} {es:List (Dat×Cell)} (hc:cOp P m o=some (.mup ag sh am ak av))
  (hX:evX g am=.bref false (r,0,0)) (hT:T r=some (.mapf pv es)) (h:mupF T ag sh r pv es (evX g ak) (evX g av)=some (v,us)):Does P o a C.w (OwesT B C T v us):=by
 obtain⟨t,kt,et,q,x,k,y,ho,hx,hk,hy,hmT,rfl⟩:=cOp_mup hc;have hrx:=zea7 hE hx;have hrk:=zea7 hE hk;have hry:=zea7 hE hy;rw[hX]at hrx;unfold mupF at h;split at h
 ·cases h
 ·rename_i kd hkd;obtain⟨k1,k2,k3⟩:=keyE_rep hkd hrk;split at h
  ·rename_i i hi;have hil:=findE_lt hi;split at h
   ·cases h
   ·rename_i old hold;split at h
    ·cases h
    ·rename_i c b us' hcell;simp only[Option.some.injEq,Prod.mk.injEq]at h;obtain⟨rfl,rfl⟩:=h;refine mupF_core hI hρ ho hmT (i:=i) (cells:=es.set i (kd,c)) hrx k1 k2 k3 hry hT (by rw[hold];exact hcell) (by simp[hil]) (fun j hj=>List.getElem?_set_ne (fun e=>hj e.symm)) (fun Y=>?_);refine⟨(entsA r pv 0 es).set i (kd,Y),by unfold putM;rw[findE_ents,hi],by simp[znb7],by rw[List.getElem?_set_self (by rw[znb7];exact hil)],fun j hj=>List.getElem?_set_ne (fun e=>hj e.symm)⟩
  ·rename_i hi;split at h
   ·cases h
   ·rename_i c b us' hcell;simp only[Option.some.injEq,Prod.mk.injEq]at h;obtain⟨rfl,rfl⟩:=h;have hn:es[es.length]?=none:=by simp
    refine mupF_core hI hρ ho hmT (i:=es.length) (cells:=es++[(kd,c)]) hrx k1 k2 k3 hry hT (by rw[hn];exact hcell) (by simp) (fun j hj=>?_) (fun Y=>?_)
    ·rw[List.getElem?_append];split
     ·rfl
     ·rw[List.getElem?_eq_none (by simp;omega),List.getElem?_eq_none (by omega)]
    ·refine⟨entsA r pv 0 es++[(kd,Y)],by unfold putM;rw[findE_ents,hi],by simp[znb7],by rw[List.getElem?_append_right (by rw[znb7];exact Nat.le_refl _),znb7];simp,fun j hj=>?_⟩;rw[List.getElem?_append];split
     ·rfl
     ·rename_i hlt;rw[znb7]at hlt ⊢;rw[List.getElem?_eq_none (by simp;omega),List.getElem?_eq_none (by rw[znb7];omega)]
  ·cases h
theorem mkMapF_ok (hI:Inv B C) (hρ:C.ρ=flat T) (hE:RepE C g a) (hc:cOp P m o=some (.mkMap true)) {upd:List (Id×Obj)} (hop:opE site (.mkMap true) g (flat T)=some (v,upd)):
  Does P o a C.w (OwesT B C T v [((site+1,0),.mapf 0 [])]):=by
 have hTn:T (site+1,0)=none∧upd=[(nid site,.blk (.map []))]:=by
  simp only[opE]at hop;split at hop
  ·cases hop
  ·rename_i hn;simp only[Option.some.injEq,Prod.mk.injEq]at hop;refine⟨?_,hop.2.symm⟩;cases hT:T (site+1,0) with
   |none=>rfl
   |some ob=>
    exfalso;have:flat T ((site+1,0),0,0)=none:=hn;cases ob with
    |plain ob=>rw[zxa7 hT]at this;cases this
    |fam ver pv fz cells=>rw[zec7 hT]at this;cases this
    |mapf pv es=>rw[flatM_root hT]at this;cases this
 obtain⟨hTn,rfl⟩:=hTn;rw[←hρ]at hop;refine (op_sound hI hE hc hop).mono fun val w' ⟨C',h1,h2,h3,h4,h5⟩=>?_
 rw[hρ]at h2;have hT':updT T [((site+1,0),.mapf 0 [])] (site+1,0)=some (.mapf 0 []):=by simp[zza7]
 have hlook:∀id:Id,id≠((site+1,0),0,0)→C'.ρ id=flat T id:=fun id hid=>by
  rw[h2];simp only[updL,nid];rw[if_neg (fun e=>hid e.symm)]
 obtain⟨C2,q1,q2,q3,q4,q5⟩:=mapf_step h3 (site+1,0) none (es:=[]) hT' (by rw[h2];simp[updL,nid]) rfl (fun j ob hob=>by
   rw[hlook _ (by simp),flat_none hTn]at hob;cases hob)
  (fun x y hy=>by rw[hlook _ (by simp;intro _ e;exact hy e)];exact flat_y hy)
  (fun id hid _=>by
   rw[hlook id (fun e=>hid (by rw[e]))];exact zka7 (by simp only[zza7];rw[if_neg (fun e=>hid e.symm)]))
  (by simp) (fun j k cj hcj=>by simp at hcj)
 exact⟨C2,q1.trans h1,q3,q4,h4.trans q5,h5.grow q5⟩
theorem opT_plain {K:Orc} (hI:Inv B C) (hρ:C.ρ=flat T) (hE:RepE C g a) (hk:(∀f args sc,k≠.call f args sc)∧∀x args sc,k≠.callV x args sc) (hc:cOp P m o=some k) (h:opT K site k g T=some (v,us)):Does P o a C.w (OwesT B C T v us):=by
 unfold opT at h;split at h
 ·exact absurd rfl (hk.1 _ _ _)
 ·exact absurd rfl (hk.2 _ _ _)
 ·rename_i sz;split at h
  ·rename_i _ nv _ _ _ upd hop;split at h
   ·rename_i hsz;subst hsz;simp only[Option.some.injEq,Prod.mk.injEq]at h;obtain⟨rfl,rfl⟩:=h;obtain⟨nv',q1,q2⟩:=opE_mvNil_r hop;simp only[AVal.rsl.injEq]at q1;obtain⟨_,rfl,_⟩:=q1;rw[←hρ]at hop;refine (op_sound hI hE (cOp_mvNil hc) hop).mono fun val w' ⟨C',h1,h2,h3,h4,h5⟩=>?_
    subst q2;rw[hρ]at h2;obtain⟨C2,k1,k2,k3,k4,k5⟩:=fam_new (n:=0) h3 h2;obtain⟨_,q1,_⟩:=opE_mvNil_r hop;rw[q1]at h5;simp only[AVal.rsl.injEq]at q1;obtain⟨_,rfl,_⟩:=q1;exact⟨C2,k1.trans h1,k3,k4,h4.trans k5,h5.grow k5⟩
   ·cases h
  ·cases h
 ·rename_i sz bytes l cc;split at h
  ·rename_i _ nv _ _ len upd hop;split at h
   ·rename_i hsz;subst hsz;simp only[Option.some.injEq,Prod.mk.injEq]at h;obtain⟨rfl,rfl⟩:=h;obtain⟨nv',n,q1,q2⟩:=opE_mk_r hop;rw[←hρ]at hop;refine (op_sound hI hE (cOp_mk hc) hop).mono fun val w' ⟨C',h1,h2,h3,h4,h5⟩=>?_
    subst q2;simp only[AVal.rsl.injEq]at q1;obtain⟨rfl,rfl,rfl,rfl,rfl⟩:=q1;rw[hρ]at h2;obtain⟨C2,k1,k2,k3,k4,k5⟩:=fam_new h3 h2;exact⟨C2,k1.trans h1,k3,k4,h4.trans k5,h5.grow k5⟩
   ·cases h
  ·cases h
 ·exact appF_ok hI hρ hE hc h
 ·split at h
  ·rename_i _ v' upd hop;simp only[Option.some.injEq,Prod.mk.injEq]at h;obtain⟨rfl,rfl⟩:=h;exact mkMapF_ok hI hρ hE hc hop
  ·cases h
 ·rename_i ag sh am ak av;split at h
  ·rename_i r hX;split at h
   ·rename_i pv es hT;exact mupF_ok hI hρ hE hc hX hT h
   ·exact flatE_ok hI hρ hE hc h
  ·exact flatE_ok hI hρ hE hc h
 ·rename_i mv n ax av;split at h
  ·rename_i r ver i hX;split at h
   ·rename_i ver' pv cells hT;split at h
    ·rename_i hcond;obtain⟨rfl,rfl⟩:=hcond;exact stF_ok hI hρ hE hc hX hT h
    ·cases h
   ·exact flatE_ok hI hρ hE hc h
  ·exact flatE_ok hI hρ hE hc h
 ·exact flatE_ok hI hρ hE hc h
end
end Go.Am
