/- Parts of the proofs of the statement, joined and made short: AmT1 AmT1m AmT2 AmT3 AmCall AmFrame AmFrame2. -/
import Derived.Test.YtgaeajfoiigbkaaGreatDoorP4
import Derived.Test.YtgaeajfoiigbkaaGreatDoorP5
import Derived.Test.YtgaeajfoiigbkaaGreatDoorP1
set_option linter.unusedVariables false
set_option linter.unusedSimpArgs false
set_option linter.unusedSectionVars false
namespace Go.Am
variable [Glob]
theorem zya7 (T : TLook) (r : RId) (o : TObj) (j : RId) : updT T [(r,o)] j = if r = j then some o else T j:=rfl
theorem zrb7 (T : TLook) (l l' : List (RId × TObj)) : updT T (l ++ l') = updT (updT T l) l':=by
 induction l generalizing T with
 | nil => rfl
 | cons p r ih => simp [updT,ih]
theorem zsa7 (r : RId) (pv : Nat) : ∀ (k : Nat) (cs : List Cell),(rowsA r pv k cs).length = cs.length
 | _,[] => rfl
 | k,c :: cs => by simp [rowsA,zsa7 r pv (k + 1) cs]
theorem zxb7 (r : RId) (pv : Nat) : ∀ (k : Nat) (cs : List Cell) (i : Nat),(rowsA r pv k cs)[i]? = (cs[i]?).map fun c => [cellA r pv (k + i) c]
 | k,[],i => by simp [rowsA]
 | k,c :: cs,0 => by simp [rowsA]
 | k,c :: cs,i + 1 => by
  simp only [rowsA,List.getElem?_cons_succ,zxb7 r pv (k + 1) cs i]
  rw [show k + 1 + i = k + (i + 1) by omega]
theorem zjd7 (r : RId) (pv i : Nat) (c : Cell) : (cellA r pv i c).leaf = true:=by
 cases c with
 | nil => simp [cellA]
 | d l => simp [cellA,Dat.isAgg]
 | own f fz sz l => cases f <;> simp [cellA]
theorem znc7 {T : TLook} {r : RId} {ver pv : Nat} {fz : Bool} {cells : List Cell} (h : T r = some (.fam ver pv fz cells)) :
  flat T (r,0,0) = some (if fz then .arr 1 ver true (cells.map Cell.dat) else .rarr 1 ver (rowsA r pv 0 cells)):=by
 simp [flat,h,flatR]
theorem zgc7 {T : TLook} {r : RId} {ver pv : Nat} {fz : Bool} {cells : List Cell} (h : T r = some (.fam ver pv fz cells)) (i : Nat) :
  flat T (r,i + 1,0) = some (kidO pv cells[i]?):=by
 simp [flat,h,flatR]
theorem zkf7 {T : TLook} {r : RId} {x y : Nat} (h : ∃ ver pv fz cells,T r = some (.fam ver pv fz cells)) (hy : y ≠ 0) : flat T (r,x,y) = none:=by
 obtain ⟨ver,pv,fz,cells,h⟩:=h
 simp [flat,h,flatR,hy]
theorem zdb7 {T : TLook} {r : RId} {o : Obj} (h : T r = some (.plain o)) : flat T (r,0,0) = some o:=by
 simp [flat,h,flatR]
theorem zbb7 {T : TLook} {r : RId} {o : Obj} (h : T r = some (.plain o)) {p : Nat × Nat} (hp : p ≠ (0,0)) : flat T (r,p) = none:=by
 obtain ⟨x,y⟩:=p
 simp only [flat,h,flatR]
 rw [if_neg]
 rintro ⟨rfl,rfl⟩
 exact hp rfl
theorem flat_none {T : TLook} {r : RId} (h : T r = none) (p : Nat × Nat) : flat T (r,p) = none:=by
 simp [flat,h]
theorem zpa7 {T T' : TLook} {id : Id} (h : T' id.1 = T id.1) : flat T' id = flat T id:=by simp [flat,h]
theorem zmc7 (pv : Nat) (c : Option Cell) : ∃ sz fz l,kidO pv c = .arr sz pv fz l:=by
 unfold kidO
 split
 ·exact ⟨_,_,_,rfl⟩
 ·exact ⟨_,_,_,rfl⟩
theorem ObjOK.same {C C' : Ctx} {L : Loc} {o : Obj} (h : ObjOK C L o) (hw : C'.w = C.w) (hF : C'.F = C.F) (hg : Grow C C') : ObjOK C' L o :=
 h.keep (T:=fun _ _ => False) (N:=fun _ => False) hg (by rw [hw]; exact KeptB.refl _ _) (fun b o v hv => .inl (by rwa [hF] at hv)) (fun _ _ _ => id) (fun _ _ => id)
theorem ObjOK.arr_ver {C C' : Ctx} {L : Loc} {sz v v' : Nat} {fz : Bool} {es : List Dat} (h : ObjOK C L (.arr sz v fz es)) (hw : C'.w = C.w) (hF : C'.F = C.F) : ObjOK C' L (.arr sz v' fz es):=by
 obtain ⟨h1,h2,h3,h4⟩:=h
 refine ⟨h1,h2,fun e => ?_,fun e => by rw [hF]; exact h4 e⟩
 obtain ⟨h5,h6⟩:=h3 e
 refine ⟨fun j hj => by rw [hw,hF]; exact h5 j hj,?_⟩
 rw [hw,hF]
 exact h6
theorem ObjOK.dead {C C' : Ctx} {L : Loc} {sz v v' : Nat} {fz : Bool} {es : List Dat} (h : ObjOK C L (.arr sz v fz es)) : ObjOK C' L (.arr sz v' true []):=by
 obtain ⟨h1,⟨cap,h2,h3⟩,_⟩:=h
 exact ⟨h1,⟨cap,h2,Nat.zero_le _⟩,(fun e => by cases e),(fun _ => by simp [RowD])⟩
theorem zpd7 {C : Ctx} {L : Loc} {v : Nat} : ObjOK C L (.arr 1 v true []) :=
 ⟨Nat.le_refl _,⟨L.n,by simp,Nat.zero_le _⟩,fun e => (by cases e),fun _ => by simp [RowD]⟩
theorem Inv.redesc {B : Base} {C C' : Ctx} (h : Inv B C) (hw : C'.w = C.w) (hF : C'.F = C.F) (σ : Id → Id)
  (hobj : ∀ id o,C'.ρ id = some o → ObjOK C' (C'.μ id) o)
  (hσ : ∀ id o,C'.ρ id = some o → o.own = true → ∃ o1,C.ρ (σ id) = some o1 ∧ o1.own = true ∧ C'.μ id = C.μ (σ id))
  (hinj : ∀ id id' o o',C'.ρ id = some o → C'.ρ id' = some o' → o.own = true → o'.own = true → σ id = σ id' → id = id')
  (hblk : ∀ id x,C'.ρ id = some (.blk x) → ∃ x1,C.ρ id = some (.blk x1) ∧ C'.μ id = C.μ id) : Inv B C':=by
 refine ⟨hobj,fun i1 i2 o1 o2 h1 h2 w1 w2 hne j1 j2 hj1 hj2 => ?_,fun id o ho how j hj => ?_,fun i1 i2 x1 x2 h1 h2 hne => ?_,fun id x hx => ?_,by rw [hw]; exact h.kept,fun b o v hv => by rw [hF] at hv; rw [hw]; exact h.Fw b o v hv,by rw [hF]; exact h.Fsub,fun b o v hv => by rw [hF] at hv; exact h.Fnew b o v hv⟩
 ·obtain ⟨p1,q1,r1,s1⟩:=hσ i1 o1 h1 w1
  obtain ⟨p2,q2,r2,s2⟩:=hσ i2 o2 h2 w2
  rw [s1] at hj1 ⊢
  rw [s2] at hj2 ⊢
  exact h.disj _ _ p1 p2 q1 q2 r1 r2 (fun e => hne (hinj i1 i2 o1 o2 h1 h2 w1 w2 e)) j1 j2 hj1 hj2
 ·obtain ⟨p1,q1,r1,s1⟩:=hσ id o ho how
  rw [s1] at hj ⊢
  exact h.own _ p1 q1 r1 j hj
 ·obtain ⟨_,p1,q1⟩:=hblk i1 x1 h1
  obtain ⟨_,p2,q2⟩:=hblk i2 x2 h2
  rw [q1,q2]
  exact h.bdisj _ _ _ _ p1 p2 hne
 ·obtain ⟨_,p1,q1⟩:=hblk id x hx
  rw [q1]
  exact h.bown _ _ p1
def CellSt (C : Ctx) (r : RId) (j : Nat) (a : AVal) : Cell → Prop
 | .nil => a = .nils
 | .d l => ∀ v,RepA C a v → RepV C.F (.sl l) v
 | .own fr fz sz l => a.leaf = true ∧ ∃ v0,C.ρ (r,j + 1,0) = some (.arr sz v0 fz l) ∧ (fr = true → a = .rsl (r,j + 1,0) v0 sz 0 l.length)
structure Moved (C : Ctx) (T' : TLook) (r : RId) (cells : List Cell) (es : List (List AVal)) (i : Nat) (r2 : RId) : Prop where
 ne : r2 ≠ r
 src : ∃ sz v l,C.ρ (r2,0,0) = some (.arr sz v false l) ∧ T' r2 = some (.plain (.arr sz (v + 1) true [])) ∧ cells[i]? = some (.own true false sz l) ∧ es[i]? = some [.rsl (r2,0,0) v sz 0 l.length]
 odd : ∀ p,p ≠ (0,0) → C.ρ (r2,p) = none
def movS (r : RId) (mv : Option (Nat × RId)) (id : Id) : Id :=
 match mv with
 | some (i,r2) => if id = (r,i + 1,0) then (r2,0,0) else id
 | none => id
theorem fam_step {B : Base} {C : Ctx} {T' : TLook} (h : Inv B C) (r : RId) {ver pv : Nat} {cells : List Cell} {es : List (List AVal)} (mv : Option (Nat × RId))
  (hT : T' r = some (.fam ver pv false cells)) (hroot : C.ρ (r,0,0) = some (.rarr 1 ver es)) (hlen : es.length = cells.length)
  (hk : ∀ j ob,C.ρ (r,j + 1,0) = some ob → ∃ sz v fz l,ob = .arr sz v fz l ∧ (v < pv ∨ ((∀ r2,mv ≠ some (j,r2)) ∧ ob = kidO pv cells[j]?)))
  (hz : ∀ x y,y ≠ 0 → C.ρ (r,x,y) = none)
  (ho : ∀ id : Id,id.1 ≠ r → (∀ i,mv ≠ some (i,id.1)) → flat T' id = C.ρ id)
  (hm : ∀ i r2,mv = some (i,r2) → Moved C T' r cells es i r2)
  (hc : ∀ j c,cells[j]? = some c → (∃ r2,mv = some (j,r2)) ∨ ∃ a,es[j]? = some [a] ∧ CellSt C r j a c) :
  ∃ C' : Ctx,C'.w = C.w ∧ C'.F = C.F ∧ C'.ρ = flat T' ∧ Inv B C' ∧ Grow C C':=by
 let σ : Id → Id:=movS r mv
 let C' : Ctx:={ w:=C.w,F:=C.F,μ:=fun id => C.μ (movS r mv id),ρ:=flat T' }
 have hμσ : ∀ id,C'.μ id = C.μ (σ id):=fun id => rfl
 have hσid : ∀ id,(∀ i r2,mv = some (i,r2) → id ≠ (r,i + 1,0)) → σ id = id:=by
  intro id hid
  simp only [σ,movS]
  split
  ·rename_i i r2
   exact if_neg (hid i r2 rfl)
  ·rfl
 have hμ : ∀ id,(∀ i r2,mv = some (i,r2) → id ≠ (r,i + 1,0)) → C'.μ id = C.μ id:=fun id hid => by rw [hμσ,hσid id hid]
 have hroot' : C'.ρ (r,0,0) = some (.rarr 1 ver (rowsA r pv 0 cells)):=by simp only [C']; rw [znc7 hT]; rfl
 have hkid' : ∀ j,C'.ρ (r,j + 1,0) = some (kidO pv cells[j]?):=fun j => zgc7 hT j
 have hodd' : ∀ x y,y ≠ 0 → C'.ρ (r,x,y) = none:=fun x y hy => zkf7 ⟨_,_,_,_,hT⟩ hy
 have hrne : ∀ i r2,mv = some (i,r2) → (r,0,0) ≠ ((r,i + 1,0) : Id):=fun i r2 _ e => by simp at e
 have hother : ∀ id : Id,id.1 ≠ r → ∀ i r2,mv = some (i,r2) → id ≠ (r,i + 1,0):=fun id hid i r2 _ e => hid (by rw [e])
 have hblkR : ∀ id x,id.1 = r → C.ρ id ≠ some (.blk x):=by
  intro id x e1 hb
  obtain ⟨r',x,y⟩:=id
  simp only at e1
  subst e1
  by_cases hy : y = 0
  ·subst hy
   cases x with
   | zero => rw [hroot] at hb; cases hb
   | succ j =>
    obtain ⟨sz,v,fz,l,q,_⟩:=hk j _ hb
    cases q
  ·rw [hz x y hy] at hb; cases hb
 have hblkR' : ∀ id x,id.1 = r → C'.ρ id ≠ some (.blk x):=by
  intro id x e1 hb
  obtain ⟨r',x,y⟩:=id
  simp only at e1
  subst e1
  by_cases hy : y = 0
  ·subst hy
   cases x with
   | zero => rw [hroot'] at hb; cases hb
   | succ j =>
    obtain ⟨sz,fz,l,q⟩:=zmc7 pv cells[j]?
    rw [hkid' j,q] at hb; cases hb
  ·rw [hodd' x y hy] at hb; cases hb
 have hblkM : ∀ id x,(∃ i,mv = some (i,id.1)) → C.ρ id ≠ some (.blk x) ∧ C'.ρ id ≠ some (.blk x):=by
  rintro ⟨r',p⟩ x ⟨i,e2⟩
  obtain ⟨_,⟨sz,v,l,q1,q3,_⟩,q2⟩:=hm i r' e2
  by_cases hp : p = (0,0)
  ·subst hp
   refine ⟨by rw [q1]; simp,?_⟩
   simp only [C']
   rw [zdb7 q3]
   simp
  ·refine ⟨by rw [q2 p hp]; simp,?_⟩
   simp only [C',flat,q3,flatR]
   split <;> simp
 have hblkO : ∀ id x,C'.ρ id = some (.blk x) → C.ρ id = some (.blk x) ∧ C'.μ id = C.μ id:=by
  intro id x hx
  have e1 : id.1 ≠ r:=fun e => hblkR' id x e hx
  have e2 : ∀ i,mv ≠ some (i,id.1):=fun i e => (hblkM id x ⟨i,e⟩).2 hx
  refine ⟨?_,hμ id (hother id e1)⟩
  rw [← ho id e1 e2]
  exact hx
 have hg : Grow C C':=by
  refine ⟨fun _ _ _ h => h,fun id L _ hb => ?_,fun id A _ ha => ?_,fun id b _ hb => ?_⟩
  rotate_left 2
  ·obtain ⟨x,hx,rfl⟩ : ∃ x,C.ρ id = some (.blk x) ∧ b = (C.μ id).b:=by
    unfold blkAt at hb
    split at hb
    ·rename_i x hx; exact ⟨x,hx,by simpa using hb.symm⟩
    ·cases hb
   have e1 : id.1 ≠ r:=fun e => hblkR id x e hx
   have e2 : ∀ i,mv ≠ some (i,id.1):=fun i e => (hblkM id x ⟨i,e⟩).1 hx
   have:=ho id e1 e2
   unfold blkAt
   have hx' : C'.ρ id = some (.blk x):=by simp only [C']; rw [this,hx]
   rw [hx',hμ id (hother id e1)]
  ·by_cases e1 : id.1 = r
   ·exfalso
    obtain ⟨r',x,y⟩:=id
    simp only at e1
    subst e1
    unfold boxAt at hb
    by_cases hy : y = 0
    ·subst hy
     cases x with
     | zero => rw [hroot] at hb; simp at hb
     | succ j =>
      cases e : C.ρ (r',j + 1,0) with
      | none => rw [e] at hb; simp at hb
      | some ob =>
       obtain ⟨sz,v,fz,l,q,_⟩:=hk j ob e
       rw [e,q] at hb; simp at hb
    ·rw [hz x y hy] at hb; simp at hb
   ·by_cases e2 : ∃ i,mv = some (i,id.1)
    ·exfalso
     obtain ⟨i,e2⟩:=e2
     obtain ⟨_,⟨sz,v,l,q1,_⟩,q2⟩:=hm i id.1 e2
     obtain ⟨r',p⟩:=id
     unfold boxAt at hb
     by_cases hp : p = (0,0)
     ·subst hp; rw [q1] at hb; simp at hb
     ·rw [q2 p hp] at hb; simp at hb
    ·have:=ho id e1 (fun i hi => e2 ⟨i,hi⟩)
     unfold boxAt at hb ⊢
     simp only [C'] at *
     rw [this,hμ id (hother id e1)]
     exact hb
  ·by_cases e1 : id.1 = r
   ·obtain ⟨r',x,y⟩:=id
    simp only at e1
    subst e1
    by_cases hy : y = 0
    ·subst hy
     cases x with
     | zero =>
      refine ⟨A,?_,Nat.le_refl _,fun _ => ⟨rfl,rfl,Nat.le_refl _⟩⟩
      unfold arrAt at ha ⊢
      rw [hroot] at ha
      rw [hroot',hμ _ (hrne)]
      simpa [zsa7,hlen] using ha
     | succ j =>
      cases e : C.ρ (r',j + 1,0) with
      | none => unfold arrAt at ha; rw [e] at ha; simp at ha
      | some ob =>
       obtain ⟨sz,v,fz,l,q,q'⟩:=hk j ob e
       obtain ⟨sz',fz',l',q2⟩:=zmc7 pv cells[j]?
       have hA : A = ⟨v,sz,l.length,C.μ (r',j + 1,0)⟩:=by
        unfold arrAt at ha; rw [e,q] at ha; simpa using ha.symm
       refine ⟨⟨pv,sz',l'.length,C'.μ (r',j + 1,0)⟩,by unfold arrAt; rw [hkid' j,q2],?_,?_⟩
       ·subst hA
        rcases q' with q' | ⟨_,q'⟩
        ·exact Nat.le_of_lt q'
        ·rw [q,q2] at q'
         cases q'
         exact Nat.le_refl _
       ·subst hA
        intro e'
        simp only at e'
        rcases q' with q' | ⟨q3,q'⟩
        ·omega
        ·rw [q,q2] at q'
         cases q'
         refine ⟨rfl,?_,Nat.le_refl _⟩
         exact hμ _ fun i r2 hmv e => by
          simp only [Prod.mk.injEq,true_and,and_true,Nat.add_right_cancel_iff] at e
          subst e
          exact q3 r2 hmv
    ·unfold arrAt at ha; rw [hz x y hy] at ha; simp at ha
   ·by_cases e2 : ∃ i,mv = some (i,id.1)
    ·obtain ⟨i,e2⟩:=e2
     obtain ⟨_,⟨sz,v,l,q1,q3,_⟩,q2⟩:=hm i id.1 e2
     obtain ⟨r',p⟩:=id
     simp only at q3
     by_cases hp : p = (0,0)
     ·subst hp
      have hA : A = ⟨v,sz,l.length,C.μ (r',0,0)⟩:=by
       unfold arrAt at ha; rw [q1] at ha; simpa using ha.symm
      subst hA
      exact ⟨⟨v + 1,sz,0,C'.μ (r',0,0)⟩,by unfold arrAt; simp only [C']; rw [zdb7 q3]; rfl,Nat.le_succ _,fun e => by simp only at e; omega⟩
     ·unfold arrAt at ha; rw [q2 p hp] at ha; simp at ha
    ·have:=ho id e1 (fun i hi => e2 ⟨i,hi⟩)
     refine ⟨A,?_,Nat.le_refl _,fun _ => ⟨rfl,rfl,Nat.le_refl _⟩⟩
     unfold arrAt at ha ⊢
     simp only [C'] at *
     rw [this,hμ id (hother id e1)]
     exact ha
 have hRsl : ∀ (id id' : Id) (v0 v1 sz : Nat) (l l' : List Dat) (fz fz' : Bool) (v : Value),C.ρ id = some (.arr sz v0 fz l) → C'.ρ id' = some (.arr sz v1 fz' l) → C'.μ id' = C.μ id → RepA C (.rsl id v0 sz 0 l.length) v → RepA C' (.rsl id' v1 sz 0 l.length) v:=by
  intro id id' v0 v1 sz l l' fz fz' v h1 h2 h3 hr
  simp only [RepA] at hr ⊢
  obtain ⟨A,p,cap,a1,a2,a3,a4,a5,a6⟩:=hr
  have hA : A = ⟨v0,sz,l.length,C.μ id⟩:=by unfold arrAt at a1; rw [h1] at a1; simpa using a1.symm
  subst hA
  obtain ⟨g1,g2,g3,g4⟩:=a6 rfl
  exact ⟨⟨v1,sz,l.length,C'.μ id'⟩,p,cap,by unfold arrAt; rw [h2],Nat.le_refl _,a3,a4,a5,fun _ => ⟨rfl,g2,by rw [h3]; exact g3,fun hc => by rw [h3]; exact g4 hc⟩⟩
 have hcell : ∀ j c,cells[j]? = some c → ∃ a,es[j]? = some [a] ∧ ∀ v,RepA C a v → RepA C' (cellA r pv j c) v:=by
  intro j c hjc
  by_cases hmj : ∃ r2,mv = some (j,r2)
  ·obtain ⟨r2,hmj⟩:=hmj
   obtain ⟨m1,⟨sz,v,l,m2,m3,m4,m5⟩,_⟩:=hm j r2 hmj
   rw [hjc] at m4
   cases m4
   refine ⟨_,m5,fun u hu => ?_⟩
   simp only [cellA]
   refine hRsl (r2,0,0) (r,j + 1,0) v pv sz l l false false u m2 (by rw [hkid' j,hjc]; rfl) ?_ hu
   rw [hμσ]
   simp [σ,movS,hmj]
  ·rcases hc j c hjc with hmj' | ⟨a,ha,hst⟩
   ·exact absurd hmj' hmj
   ·refine ⟨a,ha,fun u hu => ?_⟩
    cases c with
    | nil => cases hst; simpa only [cellA,RepA] using hu
    | d l => simp only [cellA,RepA]; exact hst u hu
    | own fr fz sz l =>
     obtain ⟨s1,v0,s2,s3⟩:=hst
     cases fr with
     | false =>
      simp only [cellA,RepA]
      exact hu.leaf s1
     | true =>
      simp only [cellA]
      rw [s3 rfl] at hu
      refine hRsl (r,j + 1,0) (r,j + 1,0) v0 pv sz l l fz fz u s2 (by rw [hkid' j,hjc]; rfl) ?_ hu
      exact hμ _ fun i r2 hmv e => by
       simp only [Prod.mk.injEq,true_and,and_true,Nat.add_right_cancel_iff] at e
       subst e
       exact hmj ⟨r2,hmv⟩
 refine ⟨C',rfl,rfl,rfl,h.redesc rfl rfl σ ?_ ?_ ?_ (fun id x hx => ⟨x,hblkO id x hx⟩),hg⟩
 ·
  intro id o hob
  by_cases e1 : id.1 = r
  ·obtain ⟨r',x,y⟩:=id
   simp only at e1
   subst e1
   by_cases hy : y = 0
   ·subst hy
    cases x with
    | zero =>
     rw [hroot'] at hob
     simp only [Option.some.injEq] at hob
     subst hob
     rw [hμ _ hrne]
     obtain ⟨o1,⟨cap,o2,o2'⟩,o3,o4,o5⟩:=h.objs _ _ hroot
     refine ⟨Nat.le_refl _,⟨cap,o2,by rw [zsa7,← hlen]; exact o2'⟩,fun row hr => ?_,fun j hj => o4 j hj,fun i row hi j a hj => ?_⟩
     ·obtain ⟨i,hi⟩:=List.getElem?_of_mem hr
      rw [zxb7] at hi
      obtain ⟨c,_,rfl⟩:=zga7 hi
      simp [zjd7]
     ·rw [zxb7] at hi
      obtain ⟨c,hcc,rfl⟩:=zga7 hi
      obtain ⟨a',ha',hrep⟩:=hcell i c hcc
      have hj0 : j = 0:=by
       have:=(List.getElem?_eq_some_iff.1 hj).1
       simp at this
       exact this
      subst hj0
      simp only [Nat.zero_add,List.getElem?_cons_zero,Option.some.injEq] at hj
      subst hj
      obtain ⟨v,hv,hr⟩:=o5 i [a'] ha' 0 a' rfl
      exact ⟨v,hv,hrep v hr⟩
    | succ j =>
     rw [hkid' j] at hob
     simp only [Option.some.injEq] at hob
     subst hob
     cases hcj : cells[j]? with
     | none => exact zpd7
     | some c =>
      cases c with
      | nil => exact zpd7
      | d l => exact zpd7
      | own fr fz sz l =>
       simp only [kidO]
       by_cases hmj : ∃ r2,mv = some (j,r2)
       ·obtain ⟨r2,hmj⟩:=hmj
        obtain ⟨m1,⟨sz',v,l',m2,m3,m4,m5⟩,_⟩:=hm j r2 hmj
        rw [hcj] at m4
        cases m4
        rw [hμσ]
        simp only [σ,movS,hmj,if_true]
        exact (h.objs _ _ m2).arr_ver rfl rfl
       ·rcases hc j _ hcj with hmj' | ⟨a,ha,_,v0,s2,_⟩
        ·exact absurd hmj' hmj
        ·rw [hμ _ fun i r2 hmv e => by
          simp only [Prod.mk.injEq,true_and,and_true,Nat.add_right_cancel_iff] at e
          subst e
          exact hmj ⟨r2,hmv⟩]
         exact (h.objs _ _ s2).arr_ver rfl rfl
   ·rw [hodd' x y hy] at hob; cases hob
  ·by_cases e2 : ∃ i,mv = some (i,id.1)
   ·obtain ⟨i,e2⟩:=e2
    obtain ⟨_,⟨sz,v,l,q1,q3,_⟩,q2⟩:=hm i id.1 e2
    obtain ⟨r',p⟩:=id
    simp only at q3
    by_cases hp : p = (0,0)
    ·subst hp
     simp only [C'] at hob
     rw [zdb7 q3] at hob
     simp only [Option.some.injEq] at hob
     subst hob
     rw [hμ _ (hother _ e1)]
     exact (h.objs _ _ q1).dead
    ·simp only [C'] at hob
     rw [zbb7 q3 hp] at hob; cases hob
   ·have hh:=ho id e1 (fun i hi => e2 ⟨i,hi⟩)
    have hob' : C.ρ id = some o:=by rw [← hh]; exact hob
    rw [hμ id (hother id e1)]
    exact (h.objs id o hob').same rfl rfl hg
 ·
  intro id o hob how
  refine ?_
  rw [hμσ]
  by_cases e1 : id.1 = r
  ·obtain ⟨r',x,y⟩:=id
   simp only at e1
   subst e1
   by_cases hy : y = 0
   ·subst hy
    cases x with
    | zero => exact ⟨_,by rw [hσid _ hrne]; exact hroot,rfl,rfl⟩
    | succ j =>
     rw [hkid' j] at hob
     simp only [Option.some.injEq] at hob
     subst hob
     cases hcj : cells[j]? with
     | none => rw [hcj] at how; simp [kidO,Obj.own] at how
     | some c =>
      cases c with
      | nil => rw [hcj] at how; simp [kidO,Obj.own] at how
      | d l => rw [hcj] at how; simp [kidO,Obj.own] at how
      | own fr fz sz l =>
       rw [hcj] at how
       simp only [kidO] at how
       by_cases hmj : ∃ r2,mv = some (j,r2)
       ·obtain ⟨r2,hmj⟩:=hmj
        obtain ⟨m1,⟨sz',v,l',m2,m3,m4,m5⟩,_⟩:=hm j r2 hmj
        refine ⟨.arr sz' v false l',?_,rfl,rfl⟩
        simp only [σ,movS,hmj,if_true]; exact m2
       ·rcases hc j _ hcj with hmj' | ⟨a,ha,_,v0,s2,_⟩
        ·exact absurd hmj' hmj
        ·refine ⟨.arr sz v0 fz l,?_,?_,rfl⟩
         ·rw [hσid _ fun i r2 hmv e => by
           simp only [Prod.mk.injEq,true_and,and_true,Nat.add_right_cancel_iff] at e
           subst e
           exact hmj ⟨r2,hmv⟩]
          exact s2
         ·simpa [Obj.own] using how
   ·rw [hodd' x y hy] at hob; cases hob
  ·rw [hσid id (hother id e1)]
   by_cases e2 : ∃ i,mv = some (i,id.1)
   ·obtain ⟨i,e2⟩:=e2
    obtain ⟨_,⟨sz,v,l,q1,q3,_⟩,q2⟩:=hm i id.1 e2
    obtain ⟨r',p⟩:=id
    simp only at q3
    by_cases hp : p = (0,0)
    ·subst hp
     simp only [C'] at hob
     rw [zdb7 q3] at hob
     simp only [Option.some.injEq] at hob
     subst hob
     simp [Obj.own] at how
    ·simp only [C'] at hob
     rw [zbb7 q3 hp] at hob; cases hob
   ·have hh:=ho id e1 (fun i hi => e2 ⟨i,hi⟩)
    exact ⟨o,by rw [← hh]; exact hob,how,rfl⟩
 ·
  intro id id' o o' hob hob' how how' he
  cases hmv : mv with
  | none => simpa [σ,movS,hmv] using he
  | some p =>
   obtain ⟨i,r2⟩:=p
   obtain ⟨m1,⟨sz,v,l,m2,m3,m4,m5⟩,_⟩:=hm i r2 hmv
   have key : ∀ id o,C'.ρ id = some o → o.own = true → id ≠ (r2,0,0):=by
    intro id o h1 h2 e
    subst e
    simp only [C'] at h1
    rw [zdb7 m3] at h1
    simp only [Option.some.injEq] at h1
    subst h1
    simp [Obj.own] at h2
   simp only [σ,movS,hmv] at he
   by_cases h1 : id = (r,i + 1,0)
   ·by_cases h2 : id' = (r,i + 1,0)
    ·rw [h1,h2]
    ·rw [if_pos h1,if_neg h2] at he
     exact absurd he.symm (key id' o' hob' how')
   ·by_cases h2 : id' = (r,i + 1,0)
    ·rw [if_neg h1,if_pos h2] at he
     exact absurd he (key id o hob how)
    ·rw [if_neg h1,if_neg h2] at he
     exact he
end Go.Am

namespace Go.Am
variable [Glob]
theorem znb7 (r : RId) (pv : Nat) : ∀ (k : Nat) (es : List (Dat × Cell)),(entsA r pv k es).length = es.length
 | _,[] => rfl
 | k,_ :: es => by simp [entsA,znb7 r pv (k + 1) es]
theorem entsA_get (r : RId) (pv : Nat) : ∀ (k : Nat) (es : List (Dat × Cell)) (i : Nat),(entsA r pv k es)[i]? = (es[i]?).map fun e => (e.1,cellA r pv (k + i) e.2)
 | _,[],i => by simp [entsA]
 | k,e :: es,0 => by simp [entsA]
 | k,e :: es,i + 1 => by simp [entsA,entsA_get r pv (k + 1) es i,Nat.add_assoc,Nat.add_comm 1]
theorem flatM_root {T : TLook} {r : RId} {pv : Nat} {es : List (Dat × Cell)} (h : T r = some (.mapf pv es)) : flat T (r,0,0) = some (.blk (.map (entsA r pv 0 es))):=by simp [flat,h,flatR]
theorem zhe7 {T : TLook} {r : RId} {pv : Nat} {es : List (Dat × Cell)} (h : T r = some (.mapf pv es)) (i : Nat) : flat T (r,i + 1,0) = some (kidO pv (es[i]?.map (·.2))):=by simp [flat,h,flatR]
theorem flatM_odd {T : TLook} {r : RId} {x y : Nat} (h : ∃ pv es,T r = some (.mapf pv es)) (hy : y ≠ 0) : flat T (r,x,y) = none:=by
 obtain ⟨pv,es,h⟩:=h
 simp [flat,h,flatR,hy]
structure MovedM (C : Ctx) (T' : TLook) (r : RId) (cells : List (Dat × Cell)) (es : List (Dat × AVal)) (i : Nat) (r2 : RId) : Prop where
 ne : r2 ≠ r
 src : ∃ sz v l k,C.ρ (r2,0,0) = some (.arr sz v false l) ∧ T' r2 = some (.plain (.arr sz (v + 1) true [])) ∧ cells[i]? = some (k,.own true false sz l) ∧ es[i]? = some (k,.rsl (r2,0,0) v sz 0 l.length)
 odd : ∀ p,p ≠ (0,0) → C.ρ (r2,p) = none
theorem mapf_step {B : Base} {C : Ctx} {T' : TLook} (h : Inv B C) (r : RId) {pv : Nat} {cells : List (Dat × Cell)} {es : List (Dat × AVal)} (mv : Option (Nat × RId))
  (hT : T' r = some (.mapf pv cells)) (hroot : C.ρ (r,0,0) = some (.blk (.map es))) (hlen : es.length = cells.length)
  (hk : ∀ j ob,C.ρ (r,j + 1,0) = some ob → ∃ sz v fz l,ob = .arr sz v fz l ∧ (v < pv ∨ ((∀ r2,mv ≠ some (j,r2)) ∧ ob = kidO pv (cells[j]?.map (·.2)))))
  (hz : ∀ x y,y ≠ 0 → C.ρ (r,x,y) = none)
  (ho : ∀ id : Id,id.1 ≠ r → (∀ i,mv ≠ some (i,id.1)) → flat T' id = C.ρ id)
  (hm : ∀ i r2,mv = some (i,r2) → MovedM C T' r cells es i r2)
  (hc : ∀ j k c,cells[j]? = some (k,c) → (∃ r2,mv = some (j,r2)) ∨ ∃ a,es[j]? = some (k,a) ∧ CellSt C r j a c) :
  ∃ C' : Ctx,C'.w = C.w ∧ C'.F = C.F ∧ C'.ρ = flat T' ∧ Inv B C' ∧ Grow C C':=by
 let σ : Id → Id:=movS r mv
 let C' : Ctx:={ w:=C.w,F:=C.F,μ:=fun id => C.μ (movS r mv id),ρ:=flat T' }
 have hμσ : ∀ id,C'.μ id = C.μ (σ id):=fun id => rfl
 have hσid : ∀ id,(∀ i r2,mv = some (i,r2) → id ≠ (r,i + 1,0)) → σ id = id:=by
  intro id hid
  simp only [σ,movS]
  split
  ·rename_i i r2
   exact if_neg (hid i r2 rfl)
  ·rfl
 have hμ : ∀ id,(∀ i r2,mv = some (i,r2) → id ≠ (r,i + 1,0)) → C'.μ id = C.μ id:=fun id hid => by rw [hμσ,hσid id hid]
 have hroot' : C'.ρ (r,0,0) = some (.blk (.map (entsA r pv 0 cells))):=by simp only [C']; rw [flatM_root hT]
 have hkid' : ∀ j,C'.ρ (r,j + 1,0) = some (kidO pv (cells[j]?.map (·.2))):=fun j => zhe7 hT j
 have hodd' : ∀ x y,y ≠ 0 → C'.ρ (r,x,y) = none:=fun x y hy => flatM_odd ⟨_,_,hT⟩ hy
 have hrne : ∀ i r2,mv = some (i,r2) → (r,0,0) ≠ ((r,i + 1,0) : Id):=fun i r2 _ e => by simp at e
 have hother : ∀ id : Id,id.1 ≠ r → ∀ i r2,mv = some (i,r2) → id ≠ (r,i + 1,0):=fun id hid i r2 _ e => hid (by rw [e])
 have hblkR : ∀ id x,id.1 = r → id ≠ (r,0,0) → C.ρ id ≠ some (.blk x):=by
  intro id x e1 hne hb
  obtain ⟨r',x,y⟩:=id
  simp only at e1
  subst e1
  by_cases hy : y = 0
  ·subst hy
   cases x with
   | zero => exact hne rfl
   | succ j =>
    obtain ⟨sz,v,fz,l,q,_⟩:=hk j _ hb
    cases q
  ·rw [hz x y hy] at hb; cases hb
 have hblkR' : ∀ id x,id.1 = r → id ≠ (r,0,0) → C'.ρ id ≠ some (.blk x):=by
  intro id x e1 hne hb
  obtain ⟨r',x,y⟩:=id
  simp only at e1
  subst e1
  by_cases hy : y = 0
  ·subst hy
   cases x with
   | zero => exact hne rfl
   | succ j =>
    obtain ⟨sz,fz,l,q⟩:=zmc7 pv (cells[j]?.map (·.2))
    rw [hkid' j,q] at hb; cases hb
  ·rw [hodd' x y hy] at hb; cases hb
 have hblkM : ∀ id x,(∃ i,mv = some (i,id.1)) → C.ρ id ≠ some (.blk x) ∧ C'.ρ id ≠ some (.blk x):=by
  rintro ⟨r',p⟩ x ⟨i,e2⟩
  obtain ⟨_,⟨sz,v,l,_,q1,q3,_⟩,q2⟩:=hm i r' e2
  by_cases hp : p = (0,0)
  ·subst hp
   refine ⟨by rw [q1]; simp,?_⟩
   simp only [C']
   rw [zdb7 q3]
   simp
  ·refine ⟨by rw [q2 p hp]; simp,?_⟩
   simp only [C',flat,q3,flatR]
   split <;> simp
 have hblkO : ∀ id x,C'.ρ id = some (.blk x) → ∃ x1,C.ρ id = some (.blk x1) ∧ C'.μ id = C.μ id:=by
  intro id x hx
  by_cases e0 : id = (r,0,0)
  ·subst e0
   exact ⟨_,hroot,hμ _ hrne⟩
  have e1 : id.1 ≠ r:=fun e => hblkR' id x e e0 hx
  have e2 : ∀ i,mv ≠ some (i,id.1):=fun i e => (hblkM id x ⟨i,e⟩).2 hx
  refine ⟨x,?_,hμ id (hother id e1)⟩
  rw [← ho id e1 e2]
  exact hx
 have hg : Grow C C':=by
  refine ⟨fun _ _ _ h => h,fun id L _ hb => ?_,fun id A _ ha => ?_,fun id b _ hb => ?_⟩
  rotate_left 2
  ·obtain ⟨x,hx,rfl⟩ : ∃ x,C.ρ id = some (.blk x) ∧ b = (C.μ id).b:=by
    unfold blkAt at hb
    split at hb
    ·rename_i x hx; exact ⟨x,hx,by simpa using hb.symm⟩
    ·cases hb
   by_cases e0 : id = (r,0,0)
   ·subst e0
    unfold blkAt
    rw [hroot',hμ _ hrne]
   have e1 : id.1 ≠ r:=fun e => hblkR id x e e0 hx
   have e2 : ∀ i,mv ≠ some (i,id.1):=fun i e => (hblkM id x ⟨i,e⟩).1 hx
   have:=ho id e1 e2
   unfold blkAt
   have hx' : C'.ρ id = some (.blk x):=by simp only [C']; rw [this,hx]
   rw [hx',hμ id (hother id e1)]
  ·by_cases e1 : id.1 = r
   ·exfalso
    obtain ⟨r',x,y⟩:=id
    simp only at e1
    subst e1
    unfold boxAt at hb
    by_cases hy : y = 0
    ·subst hy
     cases x with
     | zero => rw [hroot] at hb; simp at hb
     | succ j =>
      cases e : C.ρ (r',j + 1,0) with
      | none => rw [e] at hb; simp at hb
      | some ob =>
       obtain ⟨sz,v,fz,l,q,_⟩:=hk j ob e
       rw [e,q] at hb; simp at hb
    ·rw [hz x y hy] at hb; simp at hb
   ·by_cases e2 : ∃ i,mv = some (i,id.1)
    ·exfalso
     obtain ⟨i,e2⟩:=e2
     obtain ⟨_,⟨sz,v,l,_,q1,_⟩,q2⟩:=hm i id.1 e2
     obtain ⟨r',p⟩:=id
     unfold boxAt at hb
     by_cases hp : p = (0,0)
     ·subst hp; rw [q1] at hb; simp at hb
     ·rw [q2 p hp] at hb; simp at hb
    ·have:=ho id e1 (fun i hi => e2 ⟨i,hi⟩)
     unfold boxAt at hb ⊢
     simp only [C'] at *
     rw [this,hμ id (hother id e1)]
     exact hb
  ·by_cases e1 : id.1 = r
   ·obtain ⟨r',x,y⟩:=id
    simp only at e1
    subst e1
    by_cases hy : y = 0
    ·subst hy
     cases x with
     | zero => unfold arrAt at ha; rw [hroot] at ha; simp at ha
     | succ j =>
      cases e : C.ρ (r',j + 1,0) with
      | none => unfold arrAt at ha; rw [e] at ha; simp at ha
      | some ob =>
       obtain ⟨sz,v,fz,l,q,q'⟩:=hk j ob e
       obtain ⟨sz',fz',l',q2⟩:=zmc7 pv (cells[j]?.map (·.2))
       have hA : A = ⟨v,sz,l.length,C.μ (r',j + 1,0)⟩:=by
        unfold arrAt at ha; rw [e,q] at ha; simpa using ha.symm
       refine ⟨⟨pv,sz',l'.length,C'.μ (r',j + 1,0)⟩,by unfold arrAt; rw [hkid' j,q2],?_,?_⟩
       ·subst hA
        rcases q' with q' | ⟨_,q'⟩
        ·exact Nat.le_of_lt q'
        ·rw [q,q2] at q'
         cases q'
         exact Nat.le_refl _
       ·subst hA
        intro e'
        simp only at e'
        rcases q' with q' | ⟨q3,q'⟩
        ·omega
        ·rw [q,q2] at q'
         cases q'
         refine ⟨rfl,?_,Nat.le_refl _⟩
         exact hμ _ fun i r2 hmv e => by
          simp only [Prod.mk.injEq,true_and,and_true,Nat.add_right_cancel_iff] at e
          subst e
          exact q3 r2 hmv
    ·unfold arrAt at ha; rw [hz x y hy] at ha; simp at ha
   ·by_cases e2 : ∃ i,mv = some (i,id.1)
    ·obtain ⟨i,e2⟩:=e2
     obtain ⟨_,⟨sz,v,l,_,q1,q3,_⟩,q2⟩:=hm i id.1 e2
     obtain ⟨r',p⟩:=id
     simp only at q3
     by_cases hp : p = (0,0)
     ·subst hp
      have hA : A = ⟨v,sz,l.length,C.μ (r',0,0)⟩:=by
       unfold arrAt at ha; rw [q1] at ha; simpa using ha.symm
      subst hA
      exact ⟨⟨v + 1,sz,0,C'.μ (r',0,0)⟩,by unfold arrAt; simp only [C']; rw [zdb7 q3]; rfl,Nat.le_succ _,fun e => by simp only at e; omega⟩
     ·unfold arrAt at ha; rw [q2 p hp] at ha; simp at ha
    ·have:=ho id e1 (fun i hi => e2 ⟨i,hi⟩)
     refine ⟨A,?_,Nat.le_refl _,fun _ => ⟨rfl,rfl,Nat.le_refl _⟩⟩
     unfold arrAt at ha ⊢
     simp only [C'] at *
     rw [this,hμ id (hother id e1)]
     exact ha
 have hRsl : ∀ (id id' : Id) (v0 v1 sz : Nat) (l l' : List Dat) (fz fz' : Bool) (v : Value),C.ρ id = some (.arr sz v0 fz l) → C'.ρ id' = some (.arr sz v1 fz' l) → C'.μ id' = C.μ id → RepA C (.rsl id v0 sz 0 l.length) v → RepA C' (.rsl id' v1 sz 0 l.length) v:=by
  intro id id' v0 v1 sz l l' fz fz' v h1 h2 h3 hr
  simp only [RepA] at hr ⊢
  obtain ⟨A,p,cap,a1,a2,a3,a4,a5,a6⟩:=hr
  have hA : A = ⟨v0,sz,l.length,C.μ id⟩:=by unfold arrAt at a1; rw [h1] at a1; simpa using a1.symm
  subst hA
  obtain ⟨g1,g2,g3,g4⟩:=a6 rfl
  exact ⟨⟨v1,sz,l.length,C'.μ id'⟩,p,cap,by unfold arrAt; rw [h2],Nat.le_refl _,a3,a4,a5,fun _ => ⟨rfl,g2,by rw [h3]; exact g3,fun hc => by rw [h3]; exact g4 hc⟩⟩
 have hcell : ∀ j k c,cells[j]? = some (k,c) → ∃ a,es[j]? = some (k,a) ∧ ∀ v,RepA C a v → RepA C' (cellA r pv j c) v:=by
  intro j k c hjc
  by_cases hmj : ∃ r2,mv = some (j,r2)
  ·obtain ⟨r2,hmj⟩:=hmj
   obtain ⟨m1,⟨sz,v,l,k0,m2,m3,m4,m5⟩,_⟩:=hm j r2 hmj
   rw [hjc] at m4
   cases m4
   refine ⟨_,m5,fun u hu => ?_⟩
   simp only [cellA]
   refine hRsl (r2,0,0) (r,j + 1,0) v pv sz l l false false u m2 (by rw [hkid' j,hjc]; rfl) ?_ hu
   rw [hμσ]
   simp [σ,movS,hmj]
  ·rcases hc j k c hjc with hmj' | ⟨a,ha,hst⟩
   ·exact absurd hmj' hmj
   ·refine ⟨a,ha,fun u hu => ?_⟩
    cases c with
    | nil => cases hst; simpa only [cellA,RepA] using hu
    | d l => simp only [cellA,RepA]; exact hst u hu
    | own fr fz sz l =>
     obtain ⟨s1,v0,s2,s3⟩:=hst
     cases fr with
     | false =>
      simp only [cellA,RepA]
      exact hu.leaf s1
     | true =>
      simp only [cellA]
      rw [s3 rfl] at hu
      refine hRsl (r,j + 1,0) (r,j + 1,0) v0 pv sz l l fz fz u s2 (by rw [hkid' j,hjc]; rfl) ?_ hu
      exact hμ _ fun i r2 hmv e => by
       simp only [Prod.mk.injEq,true_and,and_true,Nat.add_right_cancel_iff] at e
       subst e
       exact hmj ⟨r2,hmv⟩
 refine ⟨C',rfl,rfl,rfl,h.redesc rfl rfl σ ?_ ?_ ?_ hblkO,hg⟩
 ·
  intro id o hob
  by_cases e1 : id.1 = r
  ·obtain ⟨r',x,y⟩:=id
   simp only at e1
   subst e1
   by_cases hy : y = 0
   ·subst hy
    cases x with
    | zero =>
     rw [hroot'] at hob
     simp only [Option.some.injEq] at hob
     subst hob
     rw [hμ _ hrne]
     obtain ⟨o1,ens,clock,o2,ob,o3⟩:=h.objs _ _ hroot
     refine ⟨o1,ens,clock,o2,ob,zbf7 (by rw [znb7,← hlen]; exact o3.length) fun i e en hi hen => ?_⟩
     rw [entsA_get] at hi
     cases hcc : cells[i]? with
     | none => rw [hcc] at hi; cases hi
     | some kc =>
      obtain ⟨k,c⟩:=kc
      rw [hcc] at hi
      simp only [Option.map_some,Option.some.injEq,Nat.zero_add] at hi
      subst hi
      obtain ⟨a',ha',hrep⟩:=hcell i k c hcc
      obtain ⟨en2,q1,q2,q3⟩:=o3.get ha'
      rw [hen] at q1
      cases q1
      exact ⟨q2,hrep _ q3⟩
    | succ j =>
     rw [hkid' j] at hob
     simp only [Option.some.injEq] at hob
     subst hob
     cases hcj : cells[j]? with
     | none => exact zpd7
     | some kc =>
      obtain ⟨k,c⟩:=kc
      cases c with
      | nil => exact zpd7
      | d l => exact zpd7
      | own fr fz sz l =>
       simp only [Option.map_some,kidO]
       by_cases hmj : ∃ r2,mv = some (j,r2)
       ·obtain ⟨r2,hmj⟩:=hmj
        obtain ⟨m1,⟨sz',v,l',k0,m2,m3,m4,m5⟩,_⟩:=hm j r2 hmj
        rw [hcj] at m4
        cases m4
        rw [hμσ]
        simp only [σ,movS,hmj,if_true]
        exact (h.objs _ _ m2).arr_ver rfl rfl
       ·rcases hc j _ _ hcj with hmj' | ⟨a,ha,_,v0,s2,_⟩
        ·exact absurd hmj' hmj
        ·rw [hμ _ fun i r2 hmv e => by
          simp only [Prod.mk.injEq,true_and,and_true,Nat.add_right_cancel_iff] at e
          subst e
          exact hmj ⟨r2,hmv⟩]
         exact (h.objs _ _ s2).arr_ver rfl rfl
   ·rw [hodd' x y hy] at hob; cases hob
  ·by_cases e2 : ∃ i,mv = some (i,id.1)
   ·obtain ⟨i,e2⟩:=e2
    obtain ⟨_,⟨sz,v,l,_,q1,q3,_⟩,q2⟩:=hm i id.1 e2
    obtain ⟨r',p⟩:=id
    simp only at q3
    by_cases hp : p = (0,0)
    ·subst hp
     simp only [C'] at hob
     rw [zdb7 q3] at hob
     simp only [Option.some.injEq] at hob
     subst hob
     rw [hμ _ (hother _ e1)]
     exact (h.objs _ _ q1).dead
    ·simp only [C'] at hob
     rw [zbb7 q3 hp] at hob; cases hob
   ·have hh:=ho id e1 (fun i hi => e2 ⟨i,hi⟩)
    have hob' : C.ρ id = some o:=by rw [← hh]; exact hob
    rw [hμ id (hother id e1)]
    exact (h.objs id o hob').same rfl rfl hg
 ·
  intro id o hob how
  refine ?_
  rw [hμσ]
  by_cases e1 : id.1 = r
  ·obtain ⟨r',x,y⟩:=id
   simp only at e1
   subst e1
   by_cases hy : y = 0
   ·subst hy
    cases x with
    | zero => rw [hroot'] at hob; simp only [Option.some.injEq] at hob; subst hob; simp [Obj.own] at how
    | succ j =>
     rw [hkid' j] at hob
     simp only [Option.some.injEq] at hob
     subst hob
     cases hcj : cells[j]? with
     | none => rw [hcj] at how; simp [kidO,Obj.own] at how
     | some kc =>
      obtain ⟨k,c⟩:=kc
      cases c with
      | nil => rw [hcj] at how; simp [kidO,Obj.own] at how
      | d l => rw [hcj] at how; simp [kidO,Obj.own] at how
      | own fr fz sz l =>
       rw [hcj] at how
       simp only [Option.map_some,kidO] at how
       by_cases hmj : ∃ r2,mv = some (j,r2)
       ·obtain ⟨r2,hmj⟩:=hmj
        obtain ⟨m1,⟨sz',v,l',k0,m2,m3,m4,m5⟩,_⟩:=hm j r2 hmj
        refine ⟨.arr sz' v false l',?_,rfl,rfl⟩
        simp only [σ,movS,hmj,if_true]; exact m2
       ·rcases hc j _ _ hcj with hmj' | ⟨a,ha,_,v0,s2,_⟩
        ·exact absurd hmj' hmj
        ·refine ⟨.arr sz v0 fz l,?_,?_,rfl⟩
         ·rw [hσid _ fun i r2 hmv e => by
           simp only [Prod.mk.injEq,true_and,and_true,Nat.add_right_cancel_iff] at e
           subst e
           exact hmj ⟨r2,hmv⟩]
          exact s2
         ·simpa [Obj.own] using how
   ·rw [hodd' x y hy] at hob; cases hob
  ·rw [hσid id (hother id e1)]
   by_cases e2 : ∃ i,mv = some (i,id.1)
   ·obtain ⟨i,e2⟩:=e2
    obtain ⟨_,⟨sz,v,l,_,q1,q3,_⟩,q2⟩:=hm i id.1 e2
    obtain ⟨r',p⟩:=id
    simp only at q3
    by_cases hp : p = (0,0)
    ·subst hp
     simp only [C'] at hob
     rw [zdb7 q3] at hob
     simp only [Option.some.injEq] at hob
     subst hob
     simp [Obj.own] at how
    ·simp only [C'] at hob
     rw [zbb7 q3 hp] at hob; cases hob
   ·have hh:=ho id e1 (fun i hi => e2 ⟨i,hi⟩)
    exact ⟨o,by rw [← hh]; exact hob,how,rfl⟩
 ·
  intro id id' o o' hob hob' how how' he
  cases hmv : mv with
  | none => simpa [σ,movS,hmv] using he
  | some p =>
   obtain ⟨i,r2⟩:=p
   obtain ⟨m1,⟨sz,v,l,_,m2,m3,m4,m5⟩,_⟩:=hm i r2 hmv
   have key : ∀ id o,C'.ρ id = some o → o.own = true → id ≠ (r2,0,0):=by
    intro id o h1 h2 e
    subst e
    simp only [C'] at h1
    rw [zdb7 m3] at h1
    simp only [Option.some.injEq] at h1
    subst h1
    simp [Obj.own] at h2
   simp only [σ,movS,hmv] at he
   by_cases h1 : id = (r,i + 1,0)
   ·by_cases h2 : id' = (r,i + 1,0)
    ·rw [h1,h2]
    ·rw [if_pos h1,if_neg h2] at he
     exact absurd he.symm (key id' o' hob' how')
   ·by_cases h2 : id' = (r,i + 1,0)
    ·rw [if_neg h1,if_pos h2] at he
     exact absurd he (key id o hob how)
    ·rw [if_neg h1,if_neg h2] at he
     exact he
end Go.Am

namespace Go.Am
variable [Glob]
theorem rowsA_set (r : RId) (pv k : Nat) (cells : List Cell) (i : Nat) (c c' : Cell) (h : cells[i]? = some c) (he : cellA r pv (k + i) c' = cellA r pv (k + i) c) : rowsA r pv k (cells.set i c') = rowsA r pv k cells:=by
 apply List.ext_getElem?
 intro j
 rw [zxb7,zxb7,List.getElem?_set]
 by_cases e : i = j
 ·subst e
  obtain ⟨hi,hh⟩:=List.getElem?_eq_some_iff.1 h
  simp [hi,hh,he]
 ·simp [e]
theorem kidO_set (pv : Nat) (cells : List Cell) (i j : Nat) (c : Cell) (hi : i < cells.length) : kidO pv (cells.set i c)[j]? = if i = j then kidO pv (some c) else kidO pv cells[j]?:=by
 rw [List.getElem?_set]
 by_cases e : i = j
 ·subst e; simp [hi]
 ·simp [e]
theorem flat_set {T : TLook} {r : RId} {ver pv : Nat} {cells : List Cell} (hT : T r = some (.fam ver pv false cells)) {i : Nat} {c c' : Cell} (hc : cells[i]? = some c) (he : cellA r pv i c' = cellA r pv i c) :
  flat (updT T [(r,.fam ver pv false (cells.set i c'))]) = updL (flat T) [((r,i + 1,0),kidO pv (some c'))]:=by
 funext x
 obtain ⟨r',a,b⟩:=x
 have hi:=(List.getElem?_eq_some_iff.1 hc).1
 simp only [updL]
 by_cases e : r' = r
 ·subst e
  have hT' : updT T [(r',.fam ver pv false (cells.set i c'))] r' = some (.fam ver pv false (cells.set i c')):=by simp [zya7]
  by_cases hb : b = 0
  ·subst hb
   cases a with
   | zero =>
    rw [znc7 hT',znc7 hT,rowsA_set r' pv 0 cells i c c' hc (by simpa using he)]
    simp
   | succ j =>
    rw [zgc7 hT',zgc7 hT,kidO_set pv cells i j c' hi]
    by_cases e : i = j
    ·subst e; simp
    ·simp [e]
  ·rw [zkf7 ⟨_,_,_,_,hT'⟩ hb,zkf7 ⟨_,_,_,_,hT⟩ hb]
   rw [if_neg]
   rintro h
   simp only [Prod.mk.injEq] at h
   exact hb h.2.2.symm
 ·rw [if_neg (fun h => e (by simp only [Prod.mk.injEq] at h; exact h.1.symm))]
  apply zpa7
  simp only [zya7]
  rw [if_neg (fun h => e h.symm)]
theorem lift1_exact {T : TLook} {id : Id} {o : Obj} {u : RId × TObj} (h : lift1 T id o = some u) : flat (updT T [u]) = updL (flat T) [(id,o)]:=by
 obtain ⟨r,i,j⟩:=id
 unfold lift1 at h
 split at h
 ·rename_i ver pv fz cells hT
  split at h
  ·rename_i i' sz ver' fz' l hid
   simp only [Prod.mk.injEq] at hid
   obtain ⟨rfl,rfl⟩:=hid
   split at h
   ·rename_i fr fz0 sz' l' hc
    split at h
    ·rename_i hcond
     obtain ⟨rfl,rfl,rfl,hl⟩:=hcond
     simp only [Option.some.injEq] at h
     subst h
     exact flat_set hT hc (by cases fr <;> simp [cellA,hl])
    ·cases h
   ·cases h
  ·cases h
 ·cases h
 ·rename_i hT hTm
  split at h
  ·rename_i h0
   simp only [Prod.mk.injEq] at h0
   obtain ⟨rfl,rfl⟩:=h0
   simp only [Option.some.injEq] at h
   subst h
   funext x
   obtain ⟨r',a,b⟩:=x
   simp only [updL]
   by_cases e : r' = r
   ·subst e
    have hT' : updT T [(r',.plain o)] r' = some (.plain o):=by simp [zya7]
    by_cases h0 : (a,b) = (0,0)
    ·simp only [Prod.mk.injEq] at h0
     obtain ⟨rfl,rfl⟩:=h0
     rw [zdb7 hT']; simp
    ·rw [zbb7 hT' h0,if_neg (fun h => h0 (by simp only [Prod.mk.injEq,true_and] at h; simp [← h.1,← h.2]))]
     cases hTr : T r' with
     | none => rw [flat_none hTr]
     | some o' =>
      cases o' with
      | plain o' => rw [zbb7 hTr h0]
      | fam ver pv fz cells => exact absurd hTr (hT _ _ _ _)
      | mapf pv es => exact absurd hTr (hTm _ _)
   ·rw [if_neg (fun h => e (by simp only [Prod.mk.injEq] at h; exact h.1.symm))]
    apply zpa7
    simp only [zya7]
    rw [if_neg (fun h => e h.symm)]
  ·cases h
theorem liftX_exact : ∀ {upd : List (Id × Obj)} {T : TLook} {us : List (RId × TObj)},liftX T upd = some us → flat (updT T us) = updL (flat T) upd
 | [],T,us,h => by
  simp only [liftX,Option.some.injEq] at h
  subst h
  rfl
 | (id,o) :: r,T,us,h => by
  simp only [liftX] at h
  split at h
  ·cases h
  ·rename_i u hu
   split at h
   ·cases h
   ·rename_i us' hus
    simp only [Option.some.injEq] at h
    subst h
    have h1:=lift1_exact hu
    have h2:=liftX_exact hus
    have e1 : updT T (u :: us') = updT (updT T [u]) us':=by rw [← zrb7]; rfl
    rw [e1,h2,h1]
    rfl
section
variable {P : Program} {o : Oper} {a : Act} {B : Base} {C : Ctx} {g : Nat → AVal} {T : TLook}
theorem grown_ok (hI : Inv B C) {id : Id} {ob : Obj} (hρ : C.ρ = updL (flat T) [(id,ob)]) {u : RId × TObj} (h : grown T id ob = some u) :
  ∃ C' : Ctx,C'.w = C.w ∧ C'.F = C.F ∧ C'.ρ = flat (updT T [u]) ∧ Inv B C' ∧ Grow C C':=by
 obtain ⟨r,x,y⟩:=id
 unfold grown at h
 split at h
 ·rename_i i sz ver' fz' l ver pv cells hid hT
  simp only [Prod.mk.injEq] at hid
  obtain ⟨rfl,rfl⟩:=hid
  split at h
  ·rename_i fr0 fz0 sz' l0 hc
   split at h
   ·rename_i hcond
    obtain ⟨rfl,rfl⟩:=hcond
    simp only [Option.some.injEq] at h
    subst h
    have hi:=(List.getElem?_eq_some_iff.1 hc).1
    have hT' : updT T [(r,.fam ver (pv + 1) false (cells.set i (.own false fz' sz l)))] r = some (.fam ver (pv + 1) false (cells.set i (.own false fz' sz l))):=by simp [zya7]
    refine fam_step hI r none (pv:=pv + 1) (cells:=cells.set i (.own false fz' sz l)) (es:=rowsA r pv 0 cells) hT' ?_ (by rw [zsa7]; simp) ?_ ?_ ?_ (by simp) ?_
    ·rw [hρ]
     simp only [updL]
     rw [if_neg (by simp),znc7 hT]
     rfl
    ·intro j ob' hob'
     rw [hρ] at hob'
     simp only [updL] at hob'
     by_cases e : i = j
     ·subst e
      simp only [if_true,Option.some.injEq] at hob'
      subst hob'
      exact ⟨_,_,_,_,rfl,.inr ⟨by simp,by rw [kidO_set _ _ _ _ _ hi]; simp [kidO]⟩⟩
     ·rw [if_neg (by simp; exact e),zgc7 hT] at hob'
      obtain ⟨s1,f1,l1,q⟩:=zmc7 pv cells[j]?
      rw [q] at hob'
      simp only [Option.some.injEq] at hob'
      exact ⟨_,_,_,_,hob'.symm,.inl (Nat.lt_succ_self _)⟩
    ·intro x y hy
     rw [hρ]
     simp only [updL]
     rw [if_neg (by simp; intro _ h; exact hy h.symm),zkf7 ⟨_,_,_,_,hT⟩ hy]
    ·intro id' hid' _
     rw [hρ]
     simp only [updL]
     rw [if_neg (fun e => hid' (by rw [← e]))]
     exact zpa7 (by simp only [zya7]; rw [if_neg (fun e => hid' e.symm)])
    ·intro j c hj
     right
     by_cases e : i = j
     ·subst e
      rw [List.getElem?_set_self hi] at hj
      simp only [Option.some.injEq] at hj
      subst hj
      refine ⟨_,by rw [zxb7,hc]; rfl,zjd7 _ _ _ _,pv + 1,?_,by simp⟩
      rw [hρ]
      simp [updL]
     ·rw [List.getElem?_set_ne e] at hj
      refine ⟨_,by rw [zxb7,hj]; rfl,?_⟩
      cases c with
      | nil => rfl
      | d l => intro v hv; simpa [cellA,RepA] using hv
      | own fr fz sz2 l2 =>
       refine ⟨zjd7 _ _ _ _,pv,?_,fun e => by subst e; simp [cellA]⟩
       rw [hρ]
       simp only [updL]
       rw [if_neg (by simp; exact e),zgc7 hT,hj]
       rfl
   ·cases h
  ·cases h
 ·rename_i i sz ver' fz' l pv es hid hT
  simp only [Prod.mk.injEq] at hid
  obtain ⟨rfl,rfl⟩:=hid
  split at h
  ·rename_i kd fr0 fz0 sz' l0 hc
   split at h
   ·rename_i hcond
    obtain ⟨rfl,rfl⟩:=hcond
    simp only [Option.some.injEq] at h
    subst h
    have hi:=(List.getElem?_eq_some_iff.1 hc).1
    have hT' : updT T [(r,.mapf (pv + 1) (es.set i (kd,.own false fz' sz l)))] r = some (.mapf (pv + 1) (es.set i (kd,.own false fz' sz l))):=by simp [zya7]
    refine mapf_step hI r none (pv:=pv + 1) (cells:=es.set i (kd,.own false fz' sz l)) (es:=entsA r pv 0 es) hT' ?_ (by rw [znb7]; simp) ?_ ?_ ?_ (by simp) ?_
    ·rw [hρ]
     simp only [updL]
     rw [if_neg (by simp),flatM_root hT]
    ·intro j ob' hob'
     rw [hρ] at hob'
     simp only [updL] at hob'
     by_cases e : i = j
     ·subst e
      simp only [if_true,Option.some.injEq] at hob'
      subst hob'
      exact ⟨_,_,_,_,rfl,.inr ⟨by simp,by rw [List.getElem?_set_self hi]; simp [kidO]⟩⟩
     ·rw [if_neg (by simp; exact e),zhe7 hT] at hob'
      obtain ⟨s1,f1,l1,q⟩:=zmc7 pv (es[j]?.map (·.2))
      rw [q] at hob'
      simp only [Option.some.injEq] at hob'
      exact ⟨_,_,_,_,hob'.symm,.inl (Nat.lt_succ_self _)⟩
    ·intro x y hy
     rw [hρ]
     simp only [updL]
     rw [if_neg (by simp; intro _ h; exact hy h.symm),flatM_odd ⟨_,_,hT⟩ hy]
    ·intro id' hid' _
     rw [hρ]
     simp only [updL]
     rw [if_neg (fun e => hid' (by rw [← e]))]
     exact zpa7 (by simp only [zya7]; rw [if_neg (fun e => hid' e.symm)])
    ·intro j k c hj
     right
     by_cases e : i = j
     ·subst e
      rw [List.getElem?_set_self hi] at hj
      simp only [Option.some.injEq,Prod.mk.injEq] at hj
      obtain ⟨rfl,rfl⟩:=hj
      refine ⟨_,by rw [entsA_get,hc]; rfl,zjd7 _ _ _ _,pv + 1,?_,by simp⟩
      rw [hρ]
      simp [updL]
     ·rw [List.getElem?_set_ne e] at hj
      refine ⟨_,by rw [entsA_get,hj]; rfl,?_⟩
      cases c with
      | nil => rfl
      | d l => intro v hv; simpa [cellA,RepA] using hv
      | own fr fz sz2 l2 =>
       refine ⟨zjd7 _ _ _ _,pv,?_,fun e => by subst e; simp [cellA]⟩
       rw [hρ]
       simp only [updL]
       rw [if_neg (by simp; exact e),zhe7 hT,hj]
       rfl
   ·cases h
  ·cases h
 ·cases h
theorem lift_ok (hI : Inv B C) {upd : List (Id × Obj)} (hρ : C.ρ = updL (flat T) upd) {us : List (RId × TObj)} (h : lift T upd = some us) :
  ∃ C' : Ctx,C'.w = C.w ∧ C'.F = C.F ∧ C'.ρ = flat (updT T us) ∧ Inv B C' ∧ Grow C C':=by
 have exact' : liftX T upd = some us → ∃ C' : Ctx,C'.w = C.w ∧ C'.F = C.F ∧ C'.ρ = flat (updT T us) ∧ Inv B C' ∧ Grow C C':=fun h =>
  ⟨C,rfl,rfl,by rw [liftX_exact h]; exact hρ,hI,Grow.refl C⟩
 unfold lift at h
 split at h
 ·simp only [Option.some.injEq] at h
  subst h
  exact ⟨C,rfl,rfl,hρ,hI,Grow.refl C⟩
 ·split at h
  ·rename_i u hu
   simp only [Option.some.injEq] at h
   subst h
   exact grown_ok hI hρ hu
  ·exact exact' h
 ·exact exact' h
def DecOK (B : Base) (C : Ctx) (T : TLook) (us : List (RId × TObj)) (Q : Ctx → Prop) : Prop :=
 ∃ C1 : Ctx,C1.w = C.w ∧ C1.ρ = flat (updT T us) ∧ Inv B C1 ∧ Grow C C1 ∧ Q C1
theorem zpe7 {ρ : Look} : ∀ (fs : List Id) (ρ' : Look) (x : Id),(ρ' x = ρ x ∨ (x ∈ fs ∧ ∃ sz ver fz es,ρ x = some (.arr sz ver fz es) ∧ ρ' x = some (.arr sz ver true es))) →
  updL ρ' (frz ρ fs) x = if x ∈ fs then (match ρ x with | some (.arr sz ver _ es) => some (.arr sz ver true es) | o => o) else ρ x
 | [],ρ',x,h => by
  simp only [frz,updL]
  rcases h with h | ⟨h,_⟩
  ·simpa using h
  ·cases h
 | i :: r,ρ',x,h => by
  simp only [frz]
  by_cases e : x = i
  ·subst e
   simp only [List.mem_cons,true_or,if_true]
   cases hx : ρ x with
   | none =>
    simp only
    have h' : ρ' x = ρ x:=by
     rcases h with h | ⟨_,sz,ver,fz,es,h1,_⟩
     ·exact h
     ·rw [hx] at h1; cases h1
    have:=zpe7 r ρ' x (.inl h')
    rw [this,hx]
    simp
   | some ob =>
    cases ob with
    | arr sz ver fz es =>
     simp only [updL]
     by_cases hr : x ∈ r
     ·have:=zpe7 (ρ:=ρ) r (fun j => if x = j then some (.arr sz ver true es) else ρ' j) x (.inr ⟨hr,sz,ver,fz,es,hx,by simp⟩)
      rw [this,if_pos hr,hx]
     ·rw [zzc7 r hr]; simp
    | box cs =>
     simp only
     have h' : ρ' x = ρ x:=by
      rcases h with h | ⟨_,sz,ver,fz,es,h1,_⟩
      ·exact h
      ·rw [hx] at h1; cases h1
     have:=zpe7 r ρ' x (.inl h')
     rw [this,hx]
     simp
    | blk y =>
     simp only
     have h' : ρ' x = ρ x:=by
      rcases h with h | ⟨_,sz,ver,fz,es,h1,_⟩
      ·exact h
      ·rw [hx] at h1; cases h1
     have:=zpe7 r ρ' x (.inl h')
     rw [this,hx]
     simp
    | rarr sz v es =>
     simp only
     have h' : ρ' x = ρ x:=by
      rcases h with h | ⟨_,sz,ver,fz,es,h1,_⟩
      ·exact h
      ·rw [hx] at h1; cases h1
     have:=zpe7 r ρ' x (.inl h')
     rw [this,hx]
     simp
  ·have h' : ρ' x = ρ x ∨ (x ∈ r ∧ ∃ sz ver fz es,ρ x = some (.arr sz ver fz es) ∧ ρ' x = some (.arr sz ver true es)):=by
    rcases h with h | ⟨h1,h2⟩
    ·exact .inl h
    ·exact .inr ⟨(List.mem_cons.1 h1).resolve_left e,h2⟩
   have hmem : (x ∈ i :: r) = (x ∈ r):=by simp [e]
   simp only [hmem]
   split
   ·simp only [updL]
    refine zpe7 r _ x ?_
    rw [if_neg (fun q => e q.symm)]
    exact h'
   ·exact zpe7 r ρ' x h'
theorem dec_arr (hI : Inv B C) (hρ : C.ρ = flat T) {id : Id} {sz ver off len : Nat} {fz : Bool} {es : List Dat} (h : flat T id = some (.arr sz ver fz es)) (hb : off + len ≤ es.length) {us : List (RId × TObj)}
  (hus : if fz then us = [] else flat (updT T us) = updL (flat T) [(id,.arr sz ver true es)]) :
  DecOK B C T us fun C1 => ∀ val,RepA C (.rsl id ver sz off len) val → RepV C1.F (.sl ((es.drop off).take len)) val:=by
 have hid : C.ρ id = some (.arr sz ver fz es):=by rw [hρ]; exact h
 obtain ⟨C1,k1,k2,k3,k4,k5,k6⟩:=hI.freeze1 hid
 have hsame : fz = true → C1.ρ = flat T:=by
  intro e
  subst e
  rw [k3,← hρ]
  funext x
  simp only [updL]
  split
  ·rename_i e; subst e; exact hid.symm
  ·rfl
 refine ⟨C1,k1,?_,k4,k5,fun val hv => ?_⟩
 ·cases fz with
  | true =>
   simp only [if_true] at hus
   subst hus
   exact hsame rfl
  | false =>
   simp only [Bool.false_eq_true,if_false] at hus
   rw [k3,hus,hρ]
 ·refine zed7 (C:=C) (C':=C1) k5.F (fs:=[id]) (fun i hi sz' ver' fz' es' he => ?_) (x:=.rsl id ver sz off len) ?_ hv
  ·simp only [List.mem_singleton] at hi
   subst hi
   rw [hid] at he
   cases he
   exact k6
  ·unfold zpb7
   simp only [hid]
   rw [if_pos ⟨trivial,trivial,hb⟩]
theorem freeze_dat (c : Cell) : c.freeze.dat = c.dat:=by cases c <;> rfl
theorem map_freeze_dat (cells : List Cell) : (cells.map Cell.freeze).map Cell.dat = cells.map Cell.dat:=by
 rw [List.map_map]
 congr 1
 funext c
 exact freeze_dat c
theorem dec_fam (hI : Inv B C) (hρ : C.ρ = flat T) {r : RId} {ver pv off len : Nat} {fz : Bool} {cells : List Cell} (h : T r = some (.fam ver pv fz cells)) (hb : off + len ≤ cells.length) (hfr : cells.all Cell.fresh = true) :
  DecOK B C T (if fz then [] else [(r,.fam ver pv true (cells.map Cell.freeze))]) fun C1 => ∀ val,RepA C (.rsl (r,0,0) ver 1 off len) val → RepV C1.F (.sl (((cells.map Cell.dat).drop off).take len)) val:=by
 cases fz with
 | true =>
  have hroot:=znc7 h
  simp only [if_true] at hroot
  exact dec_arr hI hρ hroot (by simpa using hb) (by simp)
 | false =>
  simp only [Bool.false_eq_true,if_false]
  let fs : List Id:=(List.range cells.length).map fun j => (r,j + 1,0)
  obtain ⟨C1,k1,k2,k3,k4,k5,k6⟩:=hI.freeze fs
  have hroot : C.ρ (r,0,0) = some (.rarr 1 ver (rowsA r pv 0 cells)):=by rw [hρ,znc7 h]; rfl
  have hlook : ∀ x,C1.ρ x = if x ∈ fs then (match flat T x with | some (.arr sz ver _ es) => some (.arr sz ver true es) | o => o) else flat T x:=by
   intro x
   rw [k3,← hρ]
   exact zpe7 fs C.ρ x (.inl rfl)
  have hmem : ∀ j,j < cells.length → ((r,j + 1,0) : Id) ∈ fs:=fun j hj => List.mem_map.2 ⟨j,by simpa using hj,rfl⟩
  have hnroot : ((r,0,0) : Id) ∉ fs:=by
   intro hm
   obtain ⟨j,_,e⟩:=List.mem_map.1 hm
   simp at e
  have hroot1 : C1.ρ (r,0,0) = some (.rarr 1 ver (rowsA r pv 0 cells)):=by
   rw [hlook,if_neg hnroot,znc7 h]; rfl
  have hkid1 : ∀ j c,cells[j]? = some c → C1.ρ (r,j + 1,0) = some (match c with | .nil => .arr 1 pv true [] | .d _ => .arr 1 pv true [] | .own _ _ sz l => .arr sz pv true l):=by
   intro j c hc
   have hj:=(List.getElem?_eq_some_iff.1 hc).1
   rw [hlook,if_pos (hmem j hj),zgc7 h,hc]
   cases c <;> rfl
  have hcells : ∀ j c,cells[j]? = some c → ∀ v,RepA C1 (cellA r pv j c) v → RepD C1.F c.dat [v]:=by
   intro j c hc v hv
   have hfj : c.fresh = true:=List.all_eq_true.1 hfr c (List.mem_of_getElem? hc)
   cases c with
   | nil =>
    simp only [cellA,RepA] at hv
    subst hv
    exact (zjb7 rfl (by simp [RepD,Cell.dat])).cell rfl
   | d l =>
    simp only [cellA,RepA] at hv
    exact hv.cell rfl
   | own fr fz sz l =>
    simp only [Cell.fresh] at hfj
    subst hfj
    have hk:=hkid1 j _ hc
    simp only at hk
    have hrow:=(k4.objs _ _ hk).2.2.2 rfl
    have:=zed7 (C:=C1) (C':=C1) (fun _ _ _ h => h) (fs:=[(r,j + 1,0)]) (fun i hi sz' ver' fz' es' he => by
     simp only [List.mem_singleton] at hi
     subst hi
     rw [hk] at he
     cases he
     exact hrow) (x:=.rsl (r,j + 1,0) pv sz 0 l.length) (d:=.sl ((l.drop 0).take l.length)) (by
      unfold zpb7
      simp only [hk]
      rw [if_pos ⟨trivial,trivial,by omega⟩]) hv
    simp only [List.drop_zero,List.take_length] at this
    exact this.cell rfl
  let C2 : Ctx:={ C1 with ρ:=updL C1.ρ [((r,0,0),.arr 1 ver false (cells.map Cell.dat))] }
  have hC2 : ∀ x,x ≠ (r,0,0) → C2.ρ x = C1.ρ x:=fun x hx => by simp only [C2,updL]; rw [if_neg (fun e => hx e.symm)]
  have hC2r : C2.ρ (r,0,0) = some (.arr 1 ver false (cells.map Cell.dat)):=by simp [C2,updL]
  have hg2 : Grow C1 C2:=by
   refine ⟨fun _ _ _ h => h,fun id L _ hb => ?_,fun id A _ ha => ?_,fun id b _ hb => by
    by_cases e : id = (r,0,0)
    ·subst e; unfold blkAt at hb; rw [hroot1] at hb; simp at hb
    ·unfold blkAt at hb ⊢; rw [hC2 id e]; exact hb⟩
   ·by_cases e : id = (r,0,0)
    ·subst e; unfold boxAt at hb; rw [hroot1] at hb; simp at hb
    ·unfold boxAt at hb ⊢; rw [hC2 id e]; exact hb
   ·by_cases e : id = (r,0,0)
    ·subst e
     refine ⟨A,?_,Nat.le_refl _,fun _ => ⟨rfl,rfl,Nat.le_refl _⟩⟩
     unfold arrAt at ha ⊢
     rw [hroot1] at ha
     rw [hC2r]
     simpa [zsa7] using ha
    ·refine ⟨A,?_,Nat.le_refl _,fun _ => ⟨rfl,rfl,Nat.le_refl _⟩⟩
     unfold arrAt at ha ⊢; rw [hC2 id e]; exact ha
  have hI2 : Inv B C2:=by
   refine k4.redesc rfl rfl (fun i => i) (fun id o ho => ?_) (fun id o ho how => ?_) (fun _ _ _ _ _ _ _ _ e => e) (fun id x hx => by
    by_cases e : id = (r,0,0)
    ·subst e; rw [hC2r] at hx; cases hx
    ·rw [hC2 id e] at hx; exact ⟨x,hx,rfl⟩)
   ·by_cases e : id = (r,0,0)
    ·subst e
     rw [hC2r] at ho
     simp only [Option.some.injEq] at ho
     subst ho
     obtain ⟨o1,⟨cap,o2,o2'⟩,o3,o4,o5⟩:=k4.objs _ _ hroot1
     refine ⟨o1,⟨cap,o2,by rw [zsa7] at o2'; simpa using o2'⟩,fun _ => ⟨fun j hj => o4 j hj,fun i d hd => ?_⟩,fun e => by cases e⟩
     rw [List.getElem?_map] at hd
     obtain ⟨c,hc,rfl⟩:=zga7 hd
     obtain ⟨v,hv,hr⟩:=o5 i [cellA r pv i c] (by rw [zxb7,hc]; simp) 0 _ rfl
     refine ⟨[v],rfl,hcells i c hc v hr,fun j u hj => ?_⟩
     cases j with
     | zero => simp at hj; subst hj; exact hv
     | succ j => simp at hj
    ·rw [hC2 id e] at ho
     exact (k4.objs id o ho).same rfl rfl hg2
   ·by_cases e : id = (r,0,0)
    ·subst e; exact ⟨_,hroot1,rfl,rfl⟩
    ·rw [hC2 id e] at ho; exact ⟨o,ho,how,rfl⟩
  obtain ⟨C3,m1,m2,m3,m4,m5,m6⟩:=hI2.freeze1 hC2r
  have hT' : updT T [(r,.fam ver pv true (cells.map Cell.freeze))] r = some (.fam ver pv true (cells.map Cell.freeze)):=by simp [zya7]
  refine ⟨C3,by rw [m1]; exact k1,?_,m4,(k5.trans hg2).trans m5,fun val hv => ?_⟩
  ·rw [m3]
   funext x
   obtain ⟨r',p,q⟩:=x
   simp only [updL]
   by_cases e : r' = r
   ·subst e
    by_cases hq : q = 0
    ·subst hq
     cases p with
     | zero => rw [znc7 hT',map_freeze_dat]; simp
     | succ j =>
      rw [if_neg (by simp),zgc7 hT',hC2 _ (by simp)]
      rw [List.getElem?_map]
      cases hc : cells[j]? with
      | none =>
       have hn : ((r',j + 1,0) : Id) ∉ fs:=by
        intro hm
        obtain ⟨k,hk,e⟩:=List.mem_map.1 hm
        simp at e hk
        subst e
        have:=List.getElem?_eq_none_iff.1 hc
        omega
       rw [hlook,if_neg hn,zgc7 h,hc]
       rfl
      | some c =>
       rw [hkid1 j c hc]
       cases c <;> rfl
    ·rw [if_neg (by simp; intro _ e; exact hq e.symm),hC2 _ (by simp; intro _ e; exact hq e),zkf7 ⟨_,_,_,_,hT'⟩ hq]
     have hn : ((r',p,q) : Id) ∉ fs:=by
      intro hm
      obtain ⟨k,hk,e⟩:=List.mem_map.1 hm
      simp at e
      exact hq e.2.symm
     rw [hlook,if_neg hn,zkf7 ⟨_,_,_,_,h⟩ hq]
   ·rw [if_neg (fun h => e (by simp only [Prod.mk.injEq] at h; exact h.1.symm)),hC2 _ (fun h => e (by simp only [Prod.mk.injEq] at h; exact h.1))]
    have hn : ((r',p,q) : Id) ∉ fs:=by
     intro hm
     obtain ⟨k,hk,e'⟩:=List.mem_map.1 hm
     simp only [Prod.mk.injEq] at e'
     exact e e'.1.symm
    rw [hlook,if_neg hn]
    refine (zpa7 ?_).symm
    simp only [zya7]
    rw [if_neg (fun h => e h.symm)]
  ·have hv2 : RepA C2 (.rsl (r,0,0) ver 1 off len) val:=(hv.grow k5).grow hg2
   refine zed7 (C:=C2) (C':=C3) m5.F (fs:=[(r,0,0)]) (fun i hi sz' ver' fz' es' he => ?_) (x:=.rsl (r,0,0) ver 1 off len) ?_ hv2
   ·simp only [List.mem_singleton] at hi
    subst hi
    rw [hC2r] at he
    cases he
    exact m6
   ·unfold zpb7
    simp only [hC2r]
    rw [if_pos ⟨trivial,trivial,by simpa using hb⟩]
theorem decT_ok (hI : Inv B C) (hρ : C.ρ = flat T) {x : AVal} {d : Dat} {us : List (RId × TObj)} (h : decT T x = some (d,us)) :
  DecOK B C T us fun C1 => ∀ val,RepA C x val → RepV C1.F d val:=by
 have plain : ∀ {d : Dat} {us : List (RId × TObj)},us = [] → (∀ val,RepA C x val → RepV C.F d val) → DecOK B C T us fun C1 => ∀ val,RepA C x val → RepV C1.F d val :=
  fun e hv => by subst e; exact ⟨C,rfl,hρ,hI,Grow.refl C,hv⟩
 unfold decT at h
 split at h
 ·simp only [Option.some.injEq,Prod.mk.injEq] at h
  obtain ⟨rfl,rfl⟩:=h
  exact plain rfl fun val hv => by simpa only [RepA] using hv
 ·simp only [Option.some.injEq,Prod.mk.injEq] at h
  obtain ⟨rfl,rfl⟩:=h
  exact plain rfl fun val hv => by simp only [RepA] at hv; subst hv; exact zjb7 rfl (by simp [RepD])
 ·simp only [Option.some.injEq,Prod.mk.injEq] at h
  obtain ⟨rfl,rfl⟩:=h
  exact plain rfl fun val hv => by simp only [RepA] at hv; obtain ⟨p,c,rfl,_⟩:=hv; exact zjb7 rfl (by simp [RepD])
 ·simp only [Option.some.injEq,Prod.mk.injEq] at h
  obtain ⟨rfl,rfl⟩:=h
  exact plain rfl fun val hv => by simp only [RepA] at hv; obtain ⟨p,rfl⟩:=hv; exact zjb7 rfl (by simp [RepD])
 ·simp only [Option.some.injEq,Prod.mk.injEq] at h
  obtain ⟨rfl,rfl⟩:=h
  exact plain rfl fun val hv => by simp only [RepA] at hv; exact hv.2
 ·rename_i r i j ver sz off len
  split at h
  ·rename_i sz' ver' fz es hT
   split at h
   ·rename_i hc
    obtain ⟨rfl,rfl,rfl,rfl,hb⟩:=hc
    simp only [Option.some.injEq,Prod.mk.injEq] at h
    obtain ⟨rfl,rfl⟩:=h
    refine dec_arr hI hρ (zdb7 hT) hb ?_
    cases fz with
    | true => simp
    | false =>
     simp only [Bool.false_eq_true,if_false]
     exact lift1_exact (T:=T) (id:=(r,0,0)) (by simp [lift1,hT])
   ·cases h
  ·rename_i ver' pv fz cells hT
   split at h
   ·rename_i hj
    subst hj
    split at h
    ·split at h
     ·rename_i hc
      obtain ⟨rfl,rfl,hb,hfr⟩:=hc
      simp only [Option.some.injEq,Prod.mk.injEq] at h
      obtain ⟨rfl,rfl⟩:=h
      exact dec_fam hI hρ hT hb hfr
     ·cases h
    ·rename_i i
     split at h
     ·rename_i fr fz' sz' l hc
      split at h
      ·rename_i hcond
       obtain ⟨rfl,rfl,hb,rfl⟩:=hcond
       simp only [Option.some.injEq,Prod.mk.injEq] at h
       obtain ⟨rfl,rfl⟩:=h
       refine dec_arr (id:=(r,i + 1,0)) hI hρ (by rw [zgc7 hT,hc]; rfl) hb ?_
       cases fz' with
       | true => simp
       | false =>
        simp only [Bool.false_eq_true,if_false]
        exact flat_set hT hc (by cases fr <;> rfl)
      ·cases h
     ·cases h
   ·cases h
  ·cases h
 ·cases h
theorem DecOK.then_ {us us' : List (RId × TObj)} {Q Q' : Ctx → Prop} (h : DecOK B C T us Q) (h' : ∀ C1 : Ctx,C1.w = C.w → C1.ρ = flat (updT T us) → Inv B C1 → Grow C C1 → Q C1 → DecOK B C1 (updT T us) us' Q') : DecOK B C T (us ++ us') Q':=by
 obtain ⟨C1,h1,h2,h3,h4,h5⟩:=h
 obtain ⟨C2,k1,k2,k3,k4,k5⟩:=h' C1 h1 h2 h3 h4 h5
 exact ⟨C2,k1.trans h1,by rw [zrb7]; exact k2,k3,h4.trans k4,k5⟩
theorem decLsT_ok : ∀ {l : List AVal} {T : TLook} {C : Ctx} {ds : List Dat} {us : List (RId × TObj)},Inv B C → C.ρ = flat T → decLsT T l = some (ds,us) →
  DecOK B C T us fun C1 => ∀ cs,RepL C l cs → AggD C1.F ds cs
 | [],T,C,ds,us,hI,hρ,h => by
  simp only [decLsT,Option.some.injEq,Prod.mk.injEq] at h
  obtain ⟨rfl,rfl⟩:=h
  exact ⟨C,rfl,hρ,hI,Grow.refl C,fun cs hcs => by simpa [RepL,AggD] using hcs⟩
 | x :: l,T,C,ds,us,hI,hρ,h => by
  simp only [decLsT] at h
  split at h
  ·cases h
  ·rename_i d us1 hd
   split at h
   ·cases h
   ·rename_i ds' us2 hds
    split at h
    ·cases h
    ·rename_i hagg
     simp only [Option.some.injEq,Prod.mk.injEq] at h
     obtain ⟨rfl,rfl⟩:=h
     refine (decT_ok hI hρ hd).then_ fun C1 e1 e2 e3 e4 e5 => ?_
     obtain ⟨C2,k1,k2,k3,k4,k5⟩:=decLsT_ok e3 e2 hds
     refine ⟨C2,k1,k2,k3,k4,fun cs hcs => ?_⟩
     simp only [RepL] at hcs
     obtain ⟨c,cs',rfl,h1,h2⟩:=hcs
     simp only [AggD]
     have hda : d.isAgg = false:=by simpa using hagg
     exact ⟨c,cs',rfl,hda,((e5 c h1).mono k4.F).cell hda,k5 cs' (h2.grow e4)⟩
theorem decV_ok (hI : Inv B C) (hρ : C.ρ = flat T) {x : AVal} {d : Dat} {us : List (RId × TObj)} (h : decV T x = some (d,us)) :
  DecOK B C T us fun C1 => ∀ val,RepA C x val → RepV C1.F d val:=by
 unfold decV at h
 split at h
 ·rename_i l
  split at h
  ·rename_i ds us' hds
   simp only [Option.some.injEq,Prod.mk.injEq] at h
   obtain ⟨rfl,rfl⟩:=h
   obtain ⟨C1,h1,h2,h3,h4,h5⟩:=decLsT_ok hI hρ hds
   refine ⟨C1,h1,h2,h3,h4,fun val hv => ?_⟩
   simp only [RepA] at hv
   obtain ⟨cs,rfl,q1,_,_⟩:=hv
   exact repV_agg (h5 _ q1)
  ·cases h
 ·exact decT_ok hI hρ h
theorem argsT_ok : ∀ {l : List (AVal × Bool)} {T : TLook} {C : Ctx} {vs : List AVal} {us : List (RId × TObj)},Inv B C → C.ρ = flat T → argsT T l = some (vs,us) →
  DecOK B C T us fun C1 => ∀ cs,RepL C (l.map (·.1)) cs → RepL C1 vs cs
 | [],T,C,vs,us,hI,hρ,h => by
  simp only [argsT,Option.some.injEq,Prod.mk.injEq] at h
  obtain ⟨rfl,rfl⟩:=h
  exact ⟨C,rfl,hρ,hI,Grow.refl C,fun cs hcs => by simpa [RepL] using hcs⟩
 | (x,true) :: l,T,C,vs,us,hI,hρ,h => by
  simp only [argsT] at h
  split at h
  ·cases h
  ·rename_i vs' us' hv
   simp only [Option.some.injEq,Prod.mk.injEq] at h
   obtain ⟨rfl,rfl⟩:=h
   obtain ⟨C1,k1,k2,k3,k4,k5⟩:=argsT_ok hI hρ hv
   refine ⟨C1,k1,k2,k3,k4,fun cs hcs => ?_⟩
   simp only [List.map_cons,RepL] at hcs ⊢
   obtain ⟨c,cs',rfl,h1,h2⟩:=hcs
   exact ⟨c,cs',rfl,h1.grow k4,k5 cs' h2⟩
 | (x,false) :: l,T,C,vs,us,hI,hρ,h => by
  simp only [argsT] at h
  split at h
  ·cases h
  ·rename_i d us1 hd
   split at h
   ·cases h
   ·rename_i vs' us2 hv
    simp only [Option.some.injEq,Prod.mk.injEq] at h
    obtain ⟨rfl,rfl⟩:=h
    refine (decV_ok hI hρ hd).then_ fun C1 e1 e2 e3 e4 e5 => ?_
    obtain ⟨C2,k1,k2,k3,k4,k5⟩:=argsT_ok e3 e2 hv
    refine ⟨C2,k1,k2,k3,k4,fun cs hcs => ?_⟩
    simp only [List.map_cons,RepL] at hcs ⊢
    obtain ⟨c,cs',rfl,h1,h2⟩:=hcs
    refine ⟨c,cs',rfl,?_,k5 cs' (h2.grow e4)⟩
    simp only [RepA]
    exact (e5 c h1).mono k4.F
end
end Go.Am

namespace Go.Am
variable [Glob]
section
variable {P : Program} {o : Oper} {a : Act} {B : Base} {C : Ctx} {g : Nat → AVal} {T : TLook} {site : Nat} {m : Mk} {k : AK} {v : AVal} {us : List (RId × TObj)}
def OwesT (B : Base) (C : Ctx) (T : TLook) (v : AVal) (us : List (RId × TObj)) (val : Value) (w' : World) : Prop :=
 ∃ C' : Ctx,C'.w = w' ∧ C'.ρ = flat (updT T us) ∧ Inv B C' ∧ Grow C C' ∧ RepA C' v val
theorem flatE_ok (hI : Inv B C) (hρ : C.ρ = flat T) (hE : RepE C g a) (hc : cOp P m o = some k) (h : flatE site k g T = some (v,us)) : Does P o a C.w (OwesT B C T v us):=by
 unfold flatE at h
 split at h
 ·cases h
 ·rename_i v' upd ho
  split at h
  ·cases h
  ·rename_i us' hl
   simp only [Option.some.injEq,Prod.mk.injEq] at h
   obtain ⟨rfl,rfl⟩:=h
   rw [← hρ] at ho
   refine (op_sound hI hE hc ho).mono fun val w' ⟨C',h1,h2,h3,h4,h5⟩ => ?_
   obtain ⟨C2,k1,k2,k3,k4,k5⟩:=lift_ok h3 (by rw [h2,hρ]) hl
   exact ⟨C2,k1.trans h1,k3,k4,h4.trans k5,h5.grow k5⟩
theorem zqf7 {r : RId} {pv i : Nat} {old : Option Cell} {mv b : Bool} {w : AVal} {c : Cell} (h : cellIn T r pv old i mv w = some (c,b,us)) :
  (∃ l,decT T w = some (.sl l,us) ∧ us.any (fun u => u.1 == r) = false ∧ c = .d l ∧ (b = false → ∀ fr fz sz l,old ≠ some (.own fr fz sz l))) ∨
  (∃ fr fz sz l,old = some (.own fr fz sz l) ∧ w = .rsl (r,i + 1,0) pv sz 0 l.length ∧ c = .own true fz sz l ∧ b = false ∧ us = []) ∨
  (∃ r2 ver sz l,r2 ≠ r ∧ T r2 = some (.plain (.arr sz ver false l)) ∧ w = .rsl (r2,0,0) ver sz 0 l.length ∧ c = .own true false sz l ∧ b = true ∧ us = [(r2,.plain (.arr sz (ver + 1) true []))]):=by
 have data : cellIn.data T r old w = some (c,b,us) → (∃ l,decT T w = some (.sl l,us) ∧ us.any (fun u => u.1 == r) = false ∧ c = .d l ∧ (b = false → ∀ fr fz sz l,old ≠ some (.own fr fz sz l))):=by
  intro h
  unfold cellIn.data at h
  split at h
  ·rename_i l us' hd
   split at h
   ·cases h
   ·rename_i hany
    simp only [Option.some.injEq,Prod.mk.injEq] at h
    obtain ⟨rfl,hb,rfl⟩:=h
    refine ⟨l,hd,(Bool.not_eq_true _).mp hany,rfl,fun e => ?_⟩
    subst e
    intro fr fz sz l' e
    subst e
    simp at hb
  ·cases h
 unfold cellIn at h
 split at h
 ·rename_i r2 i2 j2 ver sz off len
  split at h
  ·rename_i hr
   subst hr
   split at h
   ·rename_i hc
    obtain ⟨rfl,rfl,rfl,rfl⟩:=hc
    split at h
    ·rename_i fr fz sz' l
     split at h
     ·rename_i hc2
      obtain ⟨rfl,rfl⟩:=hc2
      simp only [Option.some.injEq,Prod.mk.injEq] at h
      obtain ⟨rfl,rfl,rfl⟩:=h
      exact .inr (.inl ⟨fr,fz,_,l,rfl,rfl,rfl,rfl,rfl⟩)
     ·cases h
    ·cases h
   ·cases h
  ·rename_i hr
   split at h
   ·split at h
    ·rename_i sz' ver' l hT
     split at h
     ·rename_i hc
      obtain ⟨rfl,rfl,rfl,rfl,rfl,rfl⟩:=hc
      simp only [Option.some.injEq,Prod.mk.injEq] at h
      obtain ⟨rfl,rfl,rfl⟩:=h
      exact .inr (.inr ⟨r2,_,_,l,hr,hT,rfl,rfl,rfl,rfl⟩)
     ·cases h
    ·cases h
   ·exact .inl (data h)
 ·exact .inl (data h)
inductive Laid (T1 : TLook) (r : RId) (pv i : Nat) (Y : AVal) : Cell → List (RId × TObj) → Prop
 | data (l : List Dat) (h : Y = .dat (.sl l)) : Laid T1 r pv i Y (.d l) []
 | same (fz : Bool) (sz : Nat) (l : List Dat) (h : flat T1 (r,i + 1,0) = some (.arr sz pv fz l)) (hY : Y = .rsl (r,i + 1,0) pv sz 0 l.length) : Laid T1 r pv i Y (.own true fz sz l) []
 | moved (r2 : RId) (ver sz : Nat) (l : List Dat) (hne : r2 ≠ r) (hT : T1 r2 = some (.plain (.arr sz ver false l))) (hY : Y = .rsl (r2,0,0) ver sz 0 l.length) :
   Laid T1 r pv i Y (.own true false sz l) [(r2,.plain (.arr sz (ver + 1) true []))]
theorem flat_not_fam {T1 : TLook} {r : RId} {x y : Nat} {ob : Obj} (h : flat T1 (r,x,y) = some ob) (hx : ¬ (x = 0 ∧ y = 0)) : (∃ ver pv fz cells,T1 r = some (.fam ver pv fz cells)) ∨ ∃ pv es,T1 r = some (.mapf pv es):=by
 cases hT : T1 r with
 | none => rw [flat_none hT] at h; cases h
 | some o =>
  cases o with
  | plain o => rw [zbb7 hT (by simp; exact fun e => fun e' => hx ⟨e,e'⟩)] at h; cases h
  | fam ver pv fz cells => exact .inl ⟨_,_,_,_,rfl⟩
  | mapf pv es => exact .inr ⟨_,_,rfl⟩
theorem flat_y {T1 : TLook} {r : RId} {x y : Nat} (hy : y ≠ 0) : flat T1 (r,x,y) = none:=by
 cases hT : T1 r with
 | none => exact flat_none hT _
 | some o =>
  cases o with
  | plain o => exact zbb7 hT (by simp [hy])
  | fam ver pv fz cells => exact zkf7 ⟨_,_,_,_,hT⟩ hy
  | mapf pv es => exact flatM_odd ⟨_,_,hT⟩ hy
theorem fam_place (hI : Inv B C) {T1 : TLook} {r : RId} {ver pv : Nat} {cells : List Cell} {es : List (List AVal)} {i : Nat} {Y : AVal} {c : Cell} (hρ : C.ρ = updL (flat T1) [((r,0,0),.rarr 1 ver es)])
  (hlen : es.length = cells.length) (hci : cells[i]? = some c) (hei : es[i]? = some [Y]) (hL : Laid T1 r pv i Y c us)
  (hoth : ∀ j cj,j ≠ i → cells[j]? = some cj → ∃ A,es[j]? = some [A] ∧ ((∃ l,cj = .d l ∧ (A = .dat (.sl l) ∨ (A = .nils ∧ l = []))) ∨ (cj = .nil ∧ A = .nils) ∨ ∃ fr fz sz l pv0,cj = .own fr fz sz l ∧ A = cellA r pv0 j cj ∧ flat T1 (r,j + 1,0) = some (.arr sz pv0 fz l)))
  (hk : ∀ j ob,flat T1 (r,j + 1,0) = some ob → ∃ sz v fz l,ob = .arr sz v fz l ∧ (v < pv ∨ ((us ≠ [] → j ≠ i) ∧ ob = kidO pv cells[j]?))) :
  ∃ C' : Ctx,C'.w = C.w ∧ C'.F = C.F ∧ C'.ρ = flat (updT T1 (us ++ [(r,.fam ver pv false cells)])) ∧ Inv B C' ∧ Grow C C':=by
 have hT' : updT T1 (us ++ [(r,.fam ver pv false cells)]) r = some (.fam ver pv false cells):=by rw [zrb7]; simp [zya7]
 have hlook : ∀ id : Id,id ≠ (r,0,0) → C.ρ id = flat T1 id:=fun id hid => by
  rw [hρ]; simp only [updL]; rw [if_neg (fun e => hid e.symm)]
 have hroot : C.ρ (r,0,0) = some (.rarr 1 ver es):=by rw [hρ]; simp [updL]
 have hz : ∀ x y,y ≠ 0 → C.ρ (r,x,y) = none:=by
  intro x y hy
  rw [hlook _ (by simp; intro _ e; exact hy e)]
  exact flat_y hy
 have hrep_d : ∀ (A : AVal) (l : List Dat),(A = .dat (.sl l) ∨ (A = .nils ∧ l = [])) → ∀ v,RepA C A v → RepV C.F (.sl l) v:=by
  intro A l h v hv
  rcases h with rfl | ⟨rfl,rfl⟩
  ·simpa only [RepA] using hv
  ·simp only [RepA] at hv; subst hv; exact zjb7 rfl (by simp [RepD])
 have hoth' : ∀ j cj,j ≠ i → cells[j]? = some cj → ∃ A,es[j]? = some [A] ∧ CellSt C r j A cj:=by
  intro j cj hj hcj
  obtain ⟨A,h1,h2⟩:=hoth j cj hj hcj
  refine ⟨A,h1,?_⟩
  rcases h2 with ⟨l,rfl,h2⟩ | ⟨rfl,rfl⟩ | ⟨fr,fz,sz,l,pv0,rfl,rfl,h3⟩
  ·exact hrep_d A l h2
  ·rfl
  ·exact ⟨zjd7 _ _ _ _,pv0,by rw [hlook _ (by simp)]; exact h3,fun e => by subst e; rfl⟩
 cases hL with
 | data l hY =>
  refine fam_step hI r none hT' hroot hlen (fun j ob hob => ?_) hz (fun id hid _ => ?_) (by simp) (fun j cj hcj => .inr ?_)
  ·rw [hlook _ (by simp)] at hob
   obtain ⟨sz,v,fz,l',h1,h2⟩:=hk j ob hob
   exact ⟨sz,v,fz,l',h1,h2.imp id fun h => ⟨by simp,h.2⟩⟩
  ·rw [hlook id (fun e => hid (by rw [e]))]
   exact zpa7 (by simp only [List.nil_append,zya7]; rw [if_neg (fun e => hid e.symm)])
  ·by_cases e : j = i
   ·subst e
    rw [hci] at hcj
    cases hcj
    exact ⟨Y,hei,hrep_d Y l (.inl hY)⟩
   ·exact hoth' j cj e hcj
 | same fz sz l hk1 hY =>
  refine fam_step hI r none hT' hroot hlen (fun j ob hob => ?_) hz (fun id hid _ => ?_) (by simp) (fun j cj hcj => .inr ?_)
  ·rw [hlook _ (by simp)] at hob
   obtain ⟨sz,v,fz,l',h1,h2⟩:=hk j ob hob
   exact ⟨sz,v,fz,l',h1,h2.imp id fun h => ⟨by simp,h.2⟩⟩
  ·rw [hlook id (fun e => hid (by rw [e]))]
   exact zpa7 (by simp only [List.nil_append,zya7]; rw [if_neg (fun e => hid e.symm)])
  ·by_cases e : j = i
   ·subst e
    rw [hci] at hcj
    cases hcj
    refine ⟨Y,hei,by rw [hY]; simp,pv,by rw [hlook _ (by simp)]; exact hk1,fun _ => hY⟩
   ·exact hoth' j cj e hcj
 | moved r2 ver2 sz l hne hT2 hY =>
  have hT2' : updT T1 ([(r2,.plain (.arr sz (ver2 + 1) true []))] ++ [(r,.fam ver pv false cells)]) r2 = some (.plain (.arr sz (ver2 + 1) true [])):=by
   rw [zrb7]
   simp only [zya7]
   rw [if_neg (fun e => hne e.symm),if_pos trivial]
  refine fam_step hI r (some (i,r2)) hT' hroot hlen (fun j ob hob => ?_) hz (fun id hid hmv => ?_) (fun i' r2' e => ?_) (fun j cj hcj => ?_)
  ·rw [hlook _ (by simp)] at hob
   obtain ⟨sz,v,fz,l',h1,h2⟩:=hk j ob hob
   refine ⟨sz,v,fz,l',h1,h2.imp id fun h => ⟨fun r2' e => ?_,h.2⟩⟩
   simp only [Option.some.injEq,Prod.mk.injEq] at e
   exact h.1 (by simp) e.1.symm
  ·rw [hlook id (fun e => hid (by rw [e]))]
   refine zpa7 ?_
   rw [zrb7]
   simp only [zya7]
   rw [if_neg (fun e => hid e.symm),if_neg (fun e => hmv i (by rw [e]))]
  ·simp only [Option.some.injEq,Prod.mk.injEq] at e
   obtain ⟨rfl,rfl⟩:=e
   refine ⟨hne,⟨sz,ver2,l,?_,hT2',hci,by rw [hei,hY]⟩,fun p hp => ?_⟩
   ·rw [hlook _ (by simp; exact fun e => hne e)]
    exact zdb7 hT2
   ·rw [hlook _ (by simp; exact fun e => absurd e hne)]
    exact zbb7 hT2 hp
  ·by_cases e : j = i
   ·subst e; exact .inl ⟨r2,rfl⟩
   ·exact .inr (hoth' j cj e hcj)
theorem any_fst {us : List (RId × TObj)} {r : RId} (h : us.any (fun u => u.1 == r) = false) : ∀ (T : TLook),updT T us r = T r:=by
 induction us with
 | nil => intro T; rfl
 | cons u us ih =>
  intro T
  simp only [List.any_cons,Bool.or_eq_false_iff,beq_eq_false_iff_ne] at h
  obtain ⟨r',o'⟩:=u
  simp only [updT]
  rw [ih h.2]
  exact if_neg h.1
theorem cellIn_ok (hI : Inv B C) (hρ : C.ρ = flat T) {r : RId} {pv i : Nat} {old : Option Cell} {mv b : Bool} {w : AVal} {c : Cell} (h : cellIn T r pv old i mv w = some (c,b,us)) (pv2 : Nat)
  (hold : ∀ fr fz sz l,old = some (.own fr fz sz l) → b = false → pv2 = pv ∧ flat T (r,i + 1,0) = some (.arr sz pv fz l)) :
  ∃ T1 C1 Y us2,C1.w = C.w ∧ C1.ρ = flat T1 ∧ Inv B C1 ∧ Grow C C1 ∧ (∀ val,RepA C w val → RepA C1 Y val) ∧ Laid T1 r pv2 i Y c us2 ∧ T1 r = T r ∧ (∀ tl,updT T1 (us2 ++ tl) = updT T (us ++ tl)) ∧ (us2 ≠ [] → b = true) ∧ Y.cells = [Y] ∧ Y.leaf = true:=by
 rcases zqf7 h with ⟨l,hd,hany,rfl,hb⟩ | ⟨fr,fz,sz,l,e1,rfl,rfl,rfl,rfl⟩ | ⟨r2,ver,sz,l,hne,hT,rfl,rfl,rfl,rfl⟩
 ·obtain ⟨C1,h1,h2,h3,h4,h5⟩:=decT_ok hI hρ hd
  refine ⟨updT T us,C1,.dat (.sl l),[],h1,h2,h3,h4,fun val hv => ?_,.data l rfl,any_fst hany T,fun tl => by rw [List.nil_append,zrb7],by simp,rfl,rfl⟩
  simp only [RepA]
  exact h5 val hv
 ·obtain ⟨rfl,hk⟩:=hold fr fz sz l e1 rfl
  exact ⟨T,C,_,[],rfl,hρ,hI,Grow.refl C,fun val hv => hv,.same fz sz l hk rfl,rfl,fun tl => rfl,by simp,rfl,rfl⟩
 ·exact ⟨T,C,_,[(r2,.plain (.arr sz (ver + 1) true []))],rfl,hρ,hI,Grow.refl C,fun val hv => hv,.moved r2 ver sz l hne hT rfl,rfl,fun tl => rfl,by simp,rfl,rfl⟩
theorem cOp_st {mv : Bool} {n : Nat} {ax av : AX} (hc : cOp P m o = some (.st mv n ax av)) :
  ∃ t x y q,o.op = .store t x y ∧ cX x = some ax ∧ cX y = some av ∧ tI P t = some q ∧ 1 ≤ q.size ∧ n = q.size:=by
 unfold cOp at hc
 split at hc
 all_goals (try (repeat' split at hc)) <;> (try (simp at hc; done))
 rename_i _ t x y hop _ _ _ i ax' av' hq hx hy hq1
 simp only [Option.some.injEq,AK.st.injEq] at hc
 obtain ⟨_,rfl,rfl,rfl⟩:=hc
 exact ⟨t,x,y,i,hop,hx,hy,hq,hq1,rfl⟩
theorem stF_ok (hI : Inv B C) (hρ : C.ρ = flat T) (hE : RepE C g a) {mv : Bool} {ax av : AX} {r : RId} {ver pv i : Nat} {cells : List Cell} (hc : cOp P m o = some (.st mv 1 ax av))
  (hX : evX g ax = .eref (r,0,0) ver i 0) (hT : T r = some (.fam ver pv false cells)) (h : stF T mv r ver pv i cells (evX g av) = some (v,us)) : Does P o a C.w (OwesT B C T v us):=by
 obtain ⟨t,x,y,q,ho,hx,hy,hq,hq1,hn⟩:=cOp_st hc
 have hrx:=zia7 hE hx
 have hry:=zia7 hE hy
 rw [hX] at hrx
 unfold stF at h
 split at h
 ·cases h
 ·rename_i old hold
  split at h
  ·cases h
  ·rename_i c b us' hcell
   simp only [Option.some.injEq,Prod.mk.injEq] at h
   obtain ⟨rfl,rfl⟩:=h
   have hi:=(List.getElem?_eq_some_iff.1 hold).1
   obtain ⟨T1,C1,Y,us2,e1,e2,e3,e4,e5,e6,e7,e8,e9,e10,e11⟩:=cellIn_ok hI hρ hcell (if b then pv + 1 else pv) (fun fr fz sz l ho hb => by
    subst hb
    cases ho
    exact ⟨rfl,by rw [zgc7 hT,hold]; rfl⟩)
   have hT1 : T1 r = some (.fam ver pv false cells):=by rw [e7]; exact hT
   have hroot : C1.ρ (r,0,0) = some (.rarr 1 ver (rowsA r pv 0 cells)):=by rw [e2,znc7 hT1]; rfl
   have hrow : (rowsA r pv 0 cells)[i]? = some [cellA r pv i old]:=by rw [zxb7,hold]; simp
   have hst : storeE C1.ρ q.size (.eref (r,0,0) ver i 0) Y = some [((r,0,0),.rarr 1 ver ((rowsA r pv 0 cells).set i [Y]))]:=by
    unfold storeE
    simp only [hroot,hrow]
    rw [if_pos ⟨trivial,by rw [e10,← hn]; rfl,by rw [← hn]; simp,by rw [e10]; simp [e11]⟩]
    simp [splice,e10]
   have hdo:=op_st' e3 ho (hrx.grow e4) (e5 _ hry) hq hq1 hst
   rw [e1] at hdo
   refine hdo.mono fun val w' ⟨C',h1,h2,h3,h4,h5⟩ => ?_
   obtain ⟨C2,k1,k2,k3,k4,k5⟩:=fam_place (T1:=T1) (us:=us2) (r:=r) (ver:=ver) (pv:=if b then pv + 1 else pv) (cells:=cells.set i c) (es:=(rowsA r pv 0 cells).set i [Y]) (i:=i) (Y:=Y) (c:=c) h3 (by rw [h2,e2])
    (by simp [zsa7]) (by simp [hi]) (by rw [List.getElem?_set_self (by rw [zsa7]; exact hi)]) e6 (fun j cj hj hcj => by
     rw [List.getElem?_set_ne (fun e => hj e.symm)] at hcj
     refine ⟨cellA r pv j cj,by rw [List.getElem?_set_ne (fun e => hj e.symm),zxb7,hcj]; simp,?_⟩
     cases cj with
     | nil => exact .inr (.inl ⟨rfl,rfl⟩)
     | d l => exact .inl ⟨l,rfl,.inl rfl⟩
     | own fr fz sz l => exact .inr (.inr ⟨fr,fz,sz,l,pv,rfl,rfl,by rw [zgc7 hT1,hcj]; rfl⟩))
    (fun j ob hob => by
     rw [zgc7 hT1] at hob
     simp only [Option.some.injEq] at hob
     obtain ⟨sz,fz,l,q⟩:=zmc7 pv cells[j]?
     rw [q] at hob
     refine ⟨sz,pv,fz,l,hob.symm,?_⟩
     cases b with
     | true => exact .inl (by simp)
     | false =>
      right
      refine ⟨fun e => by have:=e9 e; simp at this,?_⟩
      simp only [Bool.false_eq_true,if_false]
      rw [kidO_set _ _ _ _ _ hi,← hob,← q]
      by_cases e : i = j
      ·subst e
       simp only [if_true]
       rcases zqf7 hcell with ⟨l',_,_,rfl,hb⟩ | ⟨fr',fz',sz',l',e1',_,rfl,_,_⟩ | ⟨_,_,_,_,_,_,_,_,hb,_⟩
       ·have:=hb rfl
        rw [hold]
        cases old with
        | nil => rfl
        | d l => rfl
        | own fr fz sz l => exact absurd rfl (this fr fz sz l)
       ·cases e1'
        rw [hold]; rfl
       ·cases hb
      ·rw [if_neg e])
   exact ⟨C2,k1.trans h1,by rw [k3,e8],k4,(e4.trans h4).trans k5,h5.grow k5⟩
theorem opE_mk_r {sz bytes : Nat} {zero : List AVal} {l c : AX} {ρ : Look} {v : AVal} {upd : List (Id × Obj)} (h : opE site (.mk .r sz bytes zero l c) g ρ = some (v,upd)) :
  ∃ nv n,v = .rsl (nid site) nv sz 0 n ∧ upd = [(nid site,.rarr sz nv (List.replicate n zero))]:=by
 simp only [opE] at h
 split at h
 ·split at h
  ·split at h
   ·split at h
    ·simp only [Option.some.injEq,Prod.mk.injEq] at h
     obtain ⟨rfl,rfl⟩:=h
     exact ⟨_,_,rfl,rfl⟩
    ·cases h
   ·cases h
  ·cases h
 ·cases h
theorem opE_mvNil_r {sz : Nat} {ρ : Look} {v : AVal} {upd : List (Id × Obj)} (h : opE site (.mvNil .r sz) g ρ = some (v,upd)) :
  ∃ nv,v = .rsl (nid site) nv sz 0 0 ∧ upd = [(nid site,.rarr sz nv [])]:=by
 simp only [opE] at h
 split at h
 ·cases h
 ·split at h
  ·simp only [Option.some.injEq,Prod.mk.injEq] at h
   obtain ⟨rfl,rfl⟩:=h
   exact ⟨_,rfl,rfl⟩
  ·cases h
theorem pvN_kid {r : RId} {j : Nat} {ob : Obj} (h : flat T (r,j + 1,0) = some ob) : ∃ sz v fz l,ob = .arr sz v fz l ∧ v < pvN T r:=by
 rcases flat_not_fam h (by simp) with ⟨ver,pv,fz,cells,hT⟩ | ⟨pv,es,hT⟩
 ·rw [zgc7 hT] at h
  obtain ⟨sz,fz',l,q⟩:=zmc7 pv cells[j]?
  rw [q] at h
  simp only [Option.some.injEq] at h
  exact ⟨sz,pv,fz',l,h.symm,by simp [pvN,hT]⟩
 ·rw [zhe7 hT] at h
  obtain ⟨sz,fz',l,q⟩:=zmc7 pv (es[j]?.map (·.2))
  rw [q] at h
  simp only [Option.some.injEq] at h
  exact ⟨sz,pv,fz',l,h.symm,by simp [pvN,hT]⟩
theorem fam_new (hI : Inv B C) {r : RId} {nv n : Nat} (hρ : C.ρ = updL (flat T) [((r,0,0),.rarr 1 nv (List.replicate n [.nils]))]) :
  ∃ C' : Ctx,C'.w = C.w ∧ C'.F = C.F ∧ C'.ρ = flat (updT T [(r,.fam nv (pvN T r) false (List.replicate n .nil))]) ∧ Inv B C' ∧ Grow C C':=by
 have hT' : updT T [(r,.fam nv (pvN T r) false (List.replicate n .nil))] r = some (.fam nv (pvN T r) false (List.replicate n .nil)):=by simp [zya7]
 have hlook : ∀ id : Id,id ≠ (r,0,0) → C.ρ id = flat T id:=fun id hid => by
  rw [hρ]; simp only [updL]; rw [if_neg (fun e => hid e.symm)]
 refine fam_step hI r none (es:=List.replicate n [.nils]) hT' (by rw [hρ]; simp [updL]) (by simp) (fun j ob hob => ?_) (fun x y hy => ?_) (fun id hid _ => ?_) (by simp) (fun j cj hcj => .inr ?_)
 ·rw [hlook _ (by simp)] at hob
  obtain ⟨sz,v,fz,l,h1,h2⟩:=pvN_kid hob
  exact ⟨sz,v,fz,l,h1,.inl h2⟩
 ·rw [hlook _ (by simp; intro _ e; exact hy e)]
  exact flat_y hy
 ·rw [hlook id (fun e => hid (by rw [e]))]
  exact zpa7 (by simp only [zya7]; rw [if_neg (fun e => hid e.symm)])
 ·rw [List.getElem?_replicate] at hcj
  split at hcj
  ·rename_i hj
   simp only [Option.some.injEq] at hcj
   subst hcj
   exact ⟨.nils,by rw [List.getElem?_replicate,if_pos hj],rfl⟩
  ·cases hcj
theorem cOp_mk {sz bytes : Nat} {zero : List AVal} {l c : AX} (hc : cOp P m o = some (.mk .f sz bytes zero l c)) : cOp P { m with md:=.r } o = some (.mk .r sz bytes zero l c):=by
 unfold cOp at hc
 split at hc
 all_goals (try (repeat' split at hc)) <;> (try (simp at hc; done))
 rename_i _ t x y hop _ _ _ i al ac hi hl hcc
 obtain ⟨z,hz,he⟩:=zga7 hc
 simp only [AK.mk.injEq] at he
 obtain ⟨_,rfl,rfl,rfl,rfl,rfl⟩:=he
 unfold cOp
 simp only [hop,hi,hl,hcc,hz,Option.map_some]
theorem cOp_mvNil {sz : Nat} (hc : cOp P m o = some (.mvNil .f sz)) : cOp P { m with md:=.r } o = some (.mvNil .r sz):=by
 unfold cOp at hc
 split at hc
 all_goals (try (repeat' split at hc)) <;> (try (simp at hc; done))
 all_goals (try (obtain ⟨z,hz,he⟩:=zga7 hc; simp at he; done))
 all_goals
  rename_i _ _ _ hop _ i hi hsz
  simp only [Option.some.injEq,AK.mvNil.injEq] at hc
  obtain ⟨_,rfl⟩:=hc
  unfold cOp
  simp [hop,hi,hsz]
theorem cOp_app {sz bytes : Nat} {ax ay : AX} {md : Md} (hc : cOp P m o = some (.app md sz bytes ax ay)) :
  ∃ c x y sT xT e q,o.op = .call c ∧ c.callee = .builtin .append ∧ c.args = #[x,y] ∧ c.argTypes[0]? = some sT ∧ c.argTypes[1]? = some xT ∧ P.underlying sT = some (.slice e) ∧
   ((∃ e',P.underlying xT = some (.slice e')) ∨ P.underlying xT = some .string) ∧ tI P e = some q ∧ (∃ l,q.zero = some l ∧ l.length = q.size) ∧ 1 ≤ q.size ∧ cX x = some ax ∧ cX y = some ay ∧ sz = q.size ∧ bytes = q.bytes:=by
 unfold cOp at hc
 split at hc
 all_goals (try (repeat' split at hc)) <;> (try (simp at hc; done))
 all_goals (try (obtain ⟨z,hz,he⟩:=zga7 hc; simp at he; done))
 ·rename_i _ c hop _ _ ax' ay' hcal hargs _ _ q e' hq hxt hz
  simp only [Option.some.injEq,AK.app.injEq] at hc
  obtain ⟨_,rfl,rfl,rfl,rfl⟩:=hc
  obtain ⟨x,y,ha,hx,hy⟩:=cXs_two hargs
  obtain ⟨sT,e,h0,hs,hqe⟩:=zae7 hq
  obtain ⟨hzl,hsz⟩:=zok_spec hz
  cases e1 : c.argTypes[1]? with
  | none => simp [e1] at hxt
  | some xT => exact ⟨c,x,y,sT,xT,e,q,hop,hcal,ha,h0,e1,hs,.inl ⟨e',by simpa [e1] using hxt⟩,hqe,hzl,hsz,hx,hy,rfl,rfl⟩
 ·rename_i _ c hop _ _ ax' ay' hcal hargs _ _ q hq hxt hz
  simp only [Option.some.injEq,AK.app.injEq] at hc
  obtain ⟨_,rfl,rfl,rfl,rfl⟩:=hc
  obtain ⟨x,y,ha,hx,hy⟩:=cXs_two hargs
  obtain ⟨sT,e,h0,hs,hqe⟩:=zae7 hq
  obtain ⟨hzl,hsz⟩:=zok_spec hz
  cases e1 : c.argTypes[1]? with
  | none => simp [e1] at hxt
  | some xT => exact ⟨c,x,y,sT,xT,e,q,hop,hcal,ha,h0,e1,hs,.inr (by simpa [e1] using hxt),hqe,hzl,hsz,hx,hy,rfl,rfl⟩
theorem lits_one {C C1 : Ctx} {w Y : AVal} {val : Value} (hg : Grow C C1) (h : RepA C (.lits 1 1 [w]) val) (hw : ∀ u,RepA C w u → RepA C1 Y u) (hY : Y.leaf = true) : RepA C1 (.lits 1 1 [Y]) val:=by
 simp only [RepA] at h ⊢
 obtain ⟨b,x,cap,cs,h1,h2,h3,h4,h5,h6,h7⟩:=h
 refine ⟨b,x,cap,cs,h1,h2,h3,?_,h5.mono hg.F,by simp [hY],h7⟩
 simp only [RepL] at h4 ⊢
 obtain ⟨c,cs',rfl,h8,h9⟩:=h4
 exact ⟨c,cs',rfl,hw c h8,h9⟩
theorem appF_ok (hI : Inv B C) (hρ : C.ρ = flat T) (hE : RepE C g a) {bytes : Nat} {ax ay : AX} (hc : cOp P m o = some (.app .f 1 bytes ax ay)) (h : appF site bytes (evX g ax) (evX g ay) T = some (v,us)) : Does P o a C.w (OwesT B C T v us):=by
 obtain ⟨c,x,y,sT,xT,e,q,ho,hcal,ha,h0,h1,hs,hxt,hq,hok,hq1,hx,hy,hq2,rfl⟩:=cOp_app hc
 have hrx:=zia7 hE hx
 have hry:=zia7 hE hy
 unfold appF at h
 split at h
 ·rename_i w hY
  rw [hY] at hry
  split at h
  ·rename_i r ver len hX
   rw [hX] at hrx
   split at h
   ·rename_i ver' pv cells hT
    split at h
    ·rename_i hcond
     obtain ⟨rfl,hlen,hroom⟩:=hcond
     split at h
     ·rename_i cc b us' hcell
      simp only [Option.some.injEq,Prod.mk.injEq] at h
      obtain ⟨rfl,rfl⟩:=h
      obtain ⟨T1,C1,Y,us2,e1,e2,e3,e4,e5,e6,e7,e8,e9,e10,e11⟩:=cellIn_ok hI hρ hcell (pv + 1) (fun fr fz sz l ho => by cases ho)
      have hT1 : T1 r = some (.fam ver pv false cells):=by rw [e7]; exact hT
      have hroot : C1.ρ (r,0,0) = some (.rarr 1 ver (rowsA r pv 0 cells)):=by rw [e2,znc7 hT1]; rfl
      have hdo:=op_appR' (P:=P) (a:=a) e3 ho hcal ha h0 h1 hs hxt hq hok (id:=(r,0,0)) (ver:=ver) (len:=len) (ay:=.lits 1 1 [Y]) (es0:=rowsA r pv 0 cells) (rows:=[[Y]]) (by rw [← hq2]; exact hrx.grow e4) (by rw [← hq2]; rfl) (lits_one e4 hry e5 e11)
       (by rw [← hq2]; exact hroot) (by rw [zsa7]; exact Nat.le_of_eq hlen) (by simp) (by simpa using hroom)
      have hpn : preN len (rowsA r pv 0 cells) = rowsA r pv 0 cells:=by unfold preN; rw [if_pos (by rw [zsa7]; exact hlen)]
      rw [hpn] at hdo
      rw [e1,← hq2] at hdo
      refine hdo.mono fun val w' ⟨C',g1,g2,g3,g4,g5⟩ => ?_
      obtain ⟨C2,k1,k2,k3,k4,k5⟩:=fam_place (T1:=T1) (us:=us2) (r:=r) (ver:=ver + 1) (pv:=pv + 1) (cells:=cells ++ [cc]) (es:=rowsA r pv 0 cells ++ [[Y]]) (i:=cells.length) (Y:=Y) (c:=cc) g3 (by rw [g2,e2])
       (by simp [zsa7]) (by simp) (by rw [List.getElem?_append_right (by rw [zsa7]; exact Nat.le_refl _),zsa7]; simp) e6 (fun j cj hj hcj => by
        have hlt : j < cells.length:=by
         have:=(List.getElem?_eq_some_iff.1 hcj).1
         simp at this; omega
        rw [List.getElem?_append_left hlt] at hcj
        refine ⟨cellA r pv j cj,by rw [List.getElem?_append_left (by rw [zsa7]; exact hlt),zxb7,hcj]; simp,?_⟩
        cases cj with
        | nil => exact .inr (.inl ⟨rfl,rfl⟩)
        | d l => exact .inl ⟨l,rfl,.inl rfl⟩
        | own fr fz sz l => exact .inr (.inr ⟨fr,fz,sz,l,pv,rfl,rfl,by rw [zgc7 hT1,hcj]; rfl⟩))
       (fun j ob hob => by
        rw [zgc7 hT1] at hob
        simp only [Option.some.injEq] at hob
        obtain ⟨sz,fz,l,q⟩:=zmc7 pv cells[j]?
        rw [q] at hob
        exact ⟨sz,pv,fz,l,hob.symm,.inl (Nat.lt_succ_self _)⟩)
      exact ⟨C2,k1.trans g1,by rw [k3,e8],k4,(e4.trans g4).trans k5,g5.grow k5⟩
     ·cases h
    ·cases h
   ·cases h
  ·rename_i hX
   rw [hX] at hrx
   split at h
   ·rename_i nv hnv
    split at h
    ·rename_i hroom
     split at h
     ·rename_i cc b us' hcell
      simp only [Option.some.injEq,Prod.mk.injEq] at h
      obtain ⟨rfl,rfl⟩:=h
      obtain ⟨T1,C1,Y,us2,e1,e2,e3,e4,e5,e6,e7,e8,e9,e10,e11⟩:=cellIn_ok hI hρ hcell (pvN T (site + 1,0)) (fun fr fz sz l ho => by cases ho)
      have hnv1 : zhb7 C1.ρ (nid site) = some nv:=by
       rw [e2]
       have : flat T1 (nid site) = flat T (nid site):=zpa7 e7
       unfold zhb7 at hnv ⊢
       rw [this]; exact hnv
      have hpv : pvN T1 (site + 1,0) = pvN T (site + 1,0):=by unfold pvN; rw [e7]
      have hdo:=zye7 (P:=P) (a:=a) e3 ho hcal ha h0 h1 hs hxt hq hok hq1 (site:=site) (nv:=nv) (ay:=.lits 1 1 [Y]) (rows:=[[Y]]) (by have:=hrx.grow e4; simp only [RepA] at this; exact ⟨_,this⟩) (by rw [← hq2]; rfl) (lits_one e4 hry e5 e11) hnv1 (by simp) (by simpa using hroom)
      rw [e1,← hq2] at hdo
      refine hdo.mono fun val w' ⟨C',g1,g2,g3,g4,g5⟩ => ?_
      obtain ⟨C2,k1,k2,k3,k4,k5⟩:=fam_place (T1:=T1) (us:=us2) (r:=(site + 1,0)) (ver:=nv) (pv:=pvN T (site + 1,0)) (cells:=[cc]) (es:=[[Y]]) (i:=0) (Y:=Y) (c:=cc) g3 (by rw [g2,e2])
       rfl rfl rfl e6 (fun j cj hj hcj => by
        cases j with
        | zero => exact absurd rfl hj
        | succ j => simp at hcj)
       (fun j ob hob => by
        obtain ⟨sz,v,fz,l,h1,h2⟩:=pvN_kid hob
        rw [hpv] at h2
        exact ⟨sz,v,fz,l,h1,.inl h2⟩)
      exact ⟨C2,k1.trans g1,by rw [k3,e8],k4,(e4.trans g4).trans k5,g5.grow k5⟩
     ·cases h
    ·cases h
   ·cases h
  ·rename_i hX
   rw [hX] at hrx
   split at h
   ·rename_i nv hnv
    split at h
    ·rename_i hroom
     split at h
     ·rename_i cc b us' hcell
      simp only [Option.some.injEq,Prod.mk.injEq] at h
      obtain ⟨rfl,rfl⟩:=h
      obtain ⟨T1,C1,Y,us2,e1,e2,e3,e4,e5,e6,e7,e8,e9,e10,e11⟩:=cellIn_ok hI hρ hcell (pvN T (site + 1,0)) (fun fr fz sz l ho => by cases ho)
      have hnv1 : zhb7 C1.ρ (nid site) = some nv:=by
       rw [e2]
       have : flat T1 (nid site) = flat T (nid site):=zpa7 e7
       unfold zhb7 at hnv ⊢
       rw [this]; exact hnv
      have hpv : pvN T1 (site + 1,0) = pvN T (site + 1,0):=by unfold pvN; rw [e7]
      have hdo:=zye7 (P:=P) (a:=a) e3 ho hcal ha h0 h1 hs hxt hq hok hq1 (site:=site) (nv:=nv) (ay:=.lits 1 1 [Y]) (rows:=[[Y]]) (by have:=hrx.grow e4; simp only [RepA] at this; exact this) (by rw [← hq2]; rfl) (lits_one e4 hry e5 e11) hnv1 (by simp) (by simpa using hroom)
      rw [e1,← hq2] at hdo
      refine hdo.mono fun val w' ⟨C',g1,g2,g3,g4,g5⟩ => ?_
      obtain ⟨C2,k1,k2,k3,k4,k5⟩:=fam_place (T1:=T1) (us:=us2) (r:=(site + 1,0)) (ver:=nv) (pv:=pvN T (site + 1,0)) (cells:=[cc]) (es:=[[Y]]) (i:=0) (Y:=Y) (c:=cc) g3 (by rw [g2,e2])
       rfl rfl rfl e6 (fun j cj hj hcj => by
        cases j with
        | zero => exact absurd rfl hj
        | succ j => simp at hcj)
       (fun j ob hob => by
        obtain ⟨sz,v,fz,l,h1,h2⟩:=pvN_kid hob
        rw [hpv] at h2
        exact ⟨sz,v,fz,l,h1,.inl h2⟩)
      exact ⟨C2,k1.trans g1,by rw [k3,e8],k4,(e4.trans g4).trans k5,g5.grow k5⟩
     ·cases h
    ·cases h
   ·cases h
  ·cases h
 ·cases h
theorem mapf_place (hI : Inv B C) {T1 : TLook} {r : RId} {pv : Nat} {cells : List (Dat × Cell)} {es : List (Dat × AVal)} {i : Nat} {kd : Dat} {Y : AVal} {c : Cell} (hρ : C.ρ = updL (flat T1) [((r,0,0),.blk (.map es))])
  (hlen : es.length = cells.length) (hci : cells[i]? = some (kd,c)) (hei : es[i]? = some (kd,Y)) (hL : Laid T1 r pv i Y c us)
  (hoth : ∀ j k cj,j ≠ i → cells[j]? = some (k,cj) → ∃ A,es[j]? = some (k,A) ∧ ((∃ l,cj = .d l ∧ A = .dat (.sl l)) ∨ (cj = .nil ∧ A = .nils) ∨ ∃ fr fz sz l pv0,cj = .own fr fz sz l ∧ A = cellA r pv0 j cj ∧ flat T1 (r,j + 1,0) = some (.arr sz pv0 fz l)))
  (hk : ∀ j ob,flat T1 (r,j + 1,0) = some ob → ∃ sz v fz l,ob = .arr sz v fz l ∧ (v < pv ∨ ((us ≠ [] → j ≠ i) ∧ ob = kidO pv (cells[j]?.map (·.2))))) :
  ∃ C' : Ctx,C'.w = C.w ∧ C'.F = C.F ∧ C'.ρ = flat (updT T1 (us ++ [(r,.mapf pv cells)])) ∧ Inv B C' ∧ Grow C C':=by
 have hT' : updT T1 (us ++ [(r,.mapf pv cells)]) r = some (.mapf pv cells):=by rw [zrb7]; simp [zya7]
 have hlook : ∀ id : Id,id ≠ (r,0,0) → C.ρ id = flat T1 id:=fun id hid => by
  rw [hρ]; simp only [updL]; rw [if_neg (fun e => hid e.symm)]
 have hroot : C.ρ (r,0,0) = some (.blk (.map es)):=by rw [hρ]; simp [updL]
 have hz : ∀ x y,y ≠ 0 → C.ρ (r,x,y) = none:=by
  intro x y hy
  rw [hlook _ (by simp; intro _ e; exact hy e)]
  exact flat_y hy
 have hrep_d : ∀ (A : AVal) (l : List Dat),A = .dat (.sl l) → ∀ v,RepA C A v → RepV C.F (.sl l) v:=by
  intro A l h v hv
  subst h
  simpa only [RepA] using hv
 have hoth' : ∀ j k cj,j ≠ i → cells[j]? = some (k,cj) → ∃ A,es[j]? = some (k,A) ∧ CellSt C r j A cj:=by
  intro j k cj hj hcj
  obtain ⟨A,h1,h2⟩:=hoth j k cj hj hcj
  refine ⟨A,h1,?_⟩
  rcases h2 with ⟨l,rfl,h2⟩ | ⟨rfl,rfl⟩ | ⟨fr,fz,sz,l,pv0,rfl,rfl,h3⟩
  ·exact hrep_d A l h2
  ·rfl
  ·exact ⟨zjd7 _ _ _ _,pv0,by rw [hlook _ (by simp)]; exact h3,fun e => by subst e; rfl⟩
 cases hL with
 | data l hY =>
  refine mapf_step hI r none hT' hroot hlen (fun j ob hob => ?_) hz (fun id hid _ => ?_) (by simp) (fun j k cj hcj => .inr ?_)
  ·rw [hlook _ (by simp)] at hob
   obtain ⟨sz,v,fz,l',h1,h2⟩:=hk j ob hob
   exact ⟨sz,v,fz,l',h1,h2.imp id fun h => ⟨by simp,h.2⟩⟩
  ·rw [hlook id (fun e => hid (by rw [e]))]
   exact zpa7 (by simp only [List.nil_append,zya7]; rw [if_neg (fun e => hid e.symm)])
  ·by_cases e : j = i
   ·subst e
    rw [hci] at hcj
    cases hcj
    exact ⟨Y,hei,hrep_d Y l hY⟩
   ·exact hoth' j k cj e hcj
 | same fz sz l hk1 hY =>
  refine mapf_step hI r none hT' hroot hlen (fun j ob hob => ?_) hz (fun id hid _ => ?_) (by simp) (fun j k cj hcj => .inr ?_)
  ·rw [hlook _ (by simp)] at hob
   obtain ⟨sz,v,fz,l',h1,h2⟩:=hk j ob hob
   exact ⟨sz,v,fz,l',h1,h2.imp id fun h => ⟨by simp,h.2⟩⟩
  ·rw [hlook id (fun e => hid (by rw [e]))]
   exact zpa7 (by simp only [List.nil_append,zya7]; rw [if_neg (fun e => hid e.symm)])
  ·by_cases e : j = i
   ·subst e
    rw [hci] at hcj
    cases hcj
    refine ⟨Y,hei,by rw [hY]; simp,pv,by rw [hlook _ (by simp)]; exact hk1,fun _ => hY⟩
   ·exact hoth' j k cj e hcj
 | moved r2 ver2 sz l hne hT2 hY =>
  have hT2' : updT T1 ([(r2,.plain (.arr sz (ver2 + 1) true []))] ++ [(r,.mapf pv cells)]) r2 = some (.plain (.arr sz (ver2 + 1) true [])):=by
   rw [zrb7]
   simp only [zya7]
   rw [if_neg (fun e => hne e.symm),if_pos trivial]
  refine mapf_step hI r (some (i,r2)) hT' hroot hlen (fun j ob hob => ?_) hz (fun id hid hmv => ?_) (fun i' r2' e => ?_) (fun j k cj hcj => ?_)
  ·rw [hlook _ (by simp)] at hob
   obtain ⟨sz,v,fz,l',h1,h2⟩:=hk j ob hob
   refine ⟨sz,v,fz,l',h1,h2.imp id fun h => ⟨fun r2' e => ?_,h.2⟩⟩
   simp only [Option.some.injEq,Prod.mk.injEq] at e
   exact h.1 (by simp) e.1.symm
  ·rw [hlook id (fun e => hid (by rw [e]))]
   refine zpa7 ?_
   rw [zrb7]
   simp only [zya7]
   rw [if_neg (fun e => hid e.symm),if_neg (fun e => hmv i (by rw [e]))]
  ·simp only [Option.some.injEq,Prod.mk.injEq] at e
   obtain ⟨rfl,rfl⟩:=e
   refine ⟨hne,⟨sz,ver2,l,kd,?_,hT2',hci,by rw [hei,hY]⟩,fun p hp => ?_⟩
   ·rw [hlook _ (by simp; exact fun e => hne e)]
    exact zdb7 hT2
   ·rw [hlook _ (by simp; exact fun e => absurd e hne)]
    exact zbb7 hT2 hp
  ·by_cases e : j = i
   ·subst e; exact .inl ⟨r2,rfl⟩
   ·exact .inr (hoth' j k cj e hcj)
theorem findE_ents {ag : Bool} {sh : List Sh} {kd : Dat} (r : RId) (pv : Nat) : ∀ (i : Nat) (es : List (Dat × Cell)),findE ag sh kd (entsA r pv i es) = findE ag sh kd es
 | _,[] => rfl
 | i,e :: es => by simp only [entsA,findE,findE_ents r pv (i + 1) es]
theorem cOp_mup {ag : Bool} {sh : List Sh} {am ak av : AX} (hc : cOp P m o = some (.mup ag sh am ak av)) :
  ∃ t kt et q x k y,o.op = .mapUpdate t x k y ∧ cX x = some am ∧ cX k = some ak ∧ cX y = some av ∧ mapT P t = some (kt,sh,et,q) ∧ ag = aggK P kt:=by
 unfold cOp at hc
 split at hc
 all_goals (try (repeat' split at hc)) <;> (try (simp at hc; done))
 rename_i _ t x k y hop _ _ _ _ kt sh' et q am' ak' av' hT hx hk hy
 simp only [Option.some.injEq,AK.mup.injEq] at hc
 obtain ⟨rfl,rfl,rfl,rfl,rfl⟩:=hc
 exact ⟨t,kt,et,q,x,k,y,hop,hx,hk,hy,hT,rfl⟩
theorem mupF_core (hI : Inv B C) (hρ : C.ρ = flat T) {t kt et : TypeId} {q : TI} {x k y : Operand} {sh : List Sh} (ho : o.op = .mapUpdate t x k y) (hmT : mapT P t = some (kt,sh,et,q)) {r : RId} {pv i : Nat} {es cells : List (Dat × Cell)} {kd : Dat} {w : AVal} {c : Cell} {b : Bool}
  (hrx : RepA C (.bref false (r,0,0)) (a.eval x)) (k1 : RepV C.F kd (a.eval k)) (k2 : kd.isAgg = aggK P kt) (k3 : zea7 sh kd.cells kd.cells = some true) (hry : RepA C w (a.eval y))
  (hT : T r = some (.mapf pv es)) (hcell : cellIn T r pv (es[i]?.map (·.2)) i true w = some (c,b,us)) (hci : cells[i]? = some (kd,c)) (hco : ∀ j,j ≠ i → cells[j]? = es[j]?)
  (hput : ∀ Y,∃ es1,putM (aggK P kt) sh kd Y (entsA r pv 0 es) = some es1 ∧ es1.length = cells.length ∧ es1[i]? = some (kd,Y) ∧ ∀ j,j ≠ i → es1[j]? = (entsA r pv 0 es)[j]?) :
  Does P o a C.w (OwesT B C T (.tup []) (us ++ [(r,.mapf (if b then pv + 1 else pv) cells)])):=by
 obtain ⟨T1,C1,Y,us2,e1,e2,e3,e4,e5,e6,e7,e8,e9,e10,e11⟩:=cellIn_ok hI hρ hcell (if b then pv + 1 else pv) (fun fr fz sz l ho hb => by
  subst hb
  refine ⟨rfl,?_⟩
  rw [zhe7 hT,ho]; rfl)
 have hT1 : T1 r = some (.mapf pv es):=by rw [e7]; exact hT
 have hroot : C1.ρ (r,0,0) = some (.blk (.map (entsA r pv 0 es))):=by rw [e2,flatM_root hT1]
 obtain ⟨es1,p1,p2,p3,p4⟩:=hput Y
 have hdo:=mup_put e3 ho hmT (hrx.grow e4) (k1.mono e4.F) k2 k3 hroot (e5 _ hry) p1
 rw [e1] at hdo
 refine hdo.mono fun val w' ⟨C',h1,h2,h3,h4,h5⟩ => ?_
 obtain ⟨C2,q1,q2,q3,q4,q5⟩:=mapf_place (T1:=T1) (us:=us2) (r:=r) (pv:=if b then pv + 1 else pv) (cells:=cells) (es:=es1) (i:=i) (kd:=kd) (Y:=Y) (c:=c) h3 (by rw [h2,e2])
  p2 hci p3 e6 (fun j k cj hj hcj => by
   rw [hco j hj] at hcj
   refine ⟨cellA r pv j cj,by rw [p4 j hj,entsA_get,hcj]; simp,?_⟩
   cases cj with
   | nil => exact .inr (.inl ⟨rfl,rfl⟩)
   | d l => exact .inl ⟨l,rfl,rfl⟩
   | own fr fz sz l => exact .inr (.inr ⟨fr,fz,sz,l,pv,rfl,rfl,by rw [zhe7 hT1,hcj]; rfl⟩))
  (fun j ob hob => by
   rw [zhe7 hT1] at hob
   simp only [Option.some.injEq] at hob
   obtain ⟨sz,fz,l,q⟩:=zmc7 pv (es[j]?.map (·.2))
   rw [q] at hob
   refine ⟨sz,pv,fz,l,hob.symm,?_⟩
   cases b with
   | true => exact .inl (by simp)
   | false =>
    right
    refine ⟨fun e => by have:=e9 e; simp at this,?_⟩
    simp only [Bool.false_eq_true,if_false]
    rw [← hob,← q]
    by_cases e : j = i
    ·subst e
     rw [hci]
     rcases zqf7 hcell with ⟨l',_,_,rfl,hb⟩ | ⟨fr',fz',sz',l',e1',_,rfl,_,_⟩ | ⟨_,_,_,_,_,_,_,_,hb,_⟩
     ·have:=hb rfl
      cases hold : es[j]?.map (·.2) with
      | none => rfl
      | some old =>
       cases old with
       | nil => rfl
       | d l => rfl
       | own fr fz sz l => exact absurd hold (this fr fz sz l)
     ·rw [e1']; rfl
     ·cases hb
    ·rw [hco j e])
 exact ⟨C2,q1.trans h1,by rw [q3,e8],q4,(e4.trans h4).trans q5,h5.grow q5⟩
theorem findE_lt {ag : Bool} {sh : List Sh} {kd : Dat} {β : Type} : ∀ {es : List (Dat × β)} {i : Nat},findE ag sh kd es = some (some i) → i < es.length
 | [],i,h => by simp [findE] at h
 | e :: r,i,h => by
  simp only [findE] at h
  split at h
  ·cases h
  ·split at h
   ·simp at h; subst h; simp
   ·split at h
    ·rename_i j hj
     simp at h
     subst h
     have:=findE_lt hj
     simp; omega
    ·cases h
    ·cases h
   ·cases h
theorem mupF_ok (hI : Inv B C) (hρ : C.ρ = flat T) (hE : RepE C g a) {ag : Bool} {sh : List Sh} {am ak av : AX} {r : RId} {pv : Nat} {es : List (Dat × Cell)} (hc : cOp P m o = some (.mup ag sh am ak av))
  (hX : evX g am = .bref false (r,0,0)) (hT : T r = some (.mapf pv es)) (h : mupF T ag sh r pv es (evX g ak) (evX g av) = some (v,us)) : Does P o a C.w (OwesT B C T v us):=by
 obtain ⟨t,kt,et,q,x,k,y,ho,hx,hk,hy,hmT,rfl⟩:=cOp_mup hc
 have hrx:=zia7 hE hx
 have hrk:=zia7 hE hk
 have hry:=zia7 hE hy
 rw [hX] at hrx
 unfold mupF at h
 split at h
 ·cases h
 ·rename_i kd hkd
  obtain ⟨k1,k2,k3⟩:=keyE_rep hkd hrk
  split at h
  ·rename_i i hi
   have hil:=findE_lt hi
   split at h
   ·cases h
   ·rename_i old hold
    split at h
    ·cases h
    ·rename_i c b us' hcell
     simp only [Option.some.injEq,Prod.mk.injEq] at h
     obtain ⟨rfl,rfl⟩:=h
     refine mupF_core hI hρ ho hmT (i:=i) (cells:=es.set i (kd,c)) hrx k1 k2 k3 hry hT (by rw [hold]; exact hcell) (by simp [hil]) (fun j hj => List.getElem?_set_ne (fun e => hj e.symm)) (fun Y => ?_)
     refine ⟨(entsA r pv 0 es).set i (kd,Y),by unfold putM; rw [findE_ents,hi],by simp [znb7],by rw [List.getElem?_set_self (by rw [znb7]; exact hil)],fun j hj => List.getElem?_set_ne (fun e => hj e.symm)⟩
  ·rename_i hi
   split at h
   ·cases h
   ·rename_i c b us' hcell
    simp only [Option.some.injEq,Prod.mk.injEq] at h
    obtain ⟨rfl,rfl⟩:=h
    have hn : es[es.length]? = none:=by simp
    refine mupF_core hI hρ ho hmT (i:=es.length) (cells:=es ++ [(kd,c)]) hrx k1 k2 k3 hry hT (by rw [hn]; exact hcell) (by simp) (fun j hj => ?_) (fun Y => ?_)
    ·rw [List.getElem?_append]
     split
     ·rfl
     ·rw [List.getElem?_eq_none (by simp; omega),List.getElem?_eq_none (by omega)]
    ·refine ⟨entsA r pv 0 es ++ [(kd,Y)],by unfold putM; rw [findE_ents,hi],by simp [znb7],by rw [List.getElem?_append_right (by rw [znb7]; exact Nat.le_refl _),znb7]; simp,fun j hj => ?_⟩
     rw [List.getElem?_append]
     split
     ·rfl
     ·rename_i hlt
      rw [znb7] at hlt ⊢
      rw [List.getElem?_eq_none (by simp; omega),List.getElem?_eq_none (by rw [znb7]; omega)]
  ·cases h
theorem mkMapF_ok (hI : Inv B C) (hρ : C.ρ = flat T) (hE : RepE C g a) (hc : cOp P m o = some (.mkMap true)) {upd : List (Id × Obj)} (hop : opE site (.mkMap true) g (flat T) = some (v,upd)) :
  Does P o a C.w (OwesT B C T v [((site + 1,0),.mapf 0 [])]):=by
 have hTn : T (site + 1,0) = none ∧ upd = [(nid site,.blk (.map []))]:=by
  simp only [opE] at hop
  split at hop
  ·cases hop
  ·rename_i hn
   simp only [Option.some.injEq,Prod.mk.injEq] at hop
   refine ⟨?_,hop.2.symm⟩
   cases hT : T (site + 1,0) with
   | none => rfl
   | some ob =>
    exfalso
    have : flat T ((site + 1,0),0,0) = none:=hn
    cases ob with
    | plain ob => rw [zdb7 hT] at this; cases this
    | fam ver pv fz cells => rw [znc7 hT] at this; cases this
    | mapf pv es => rw [flatM_root hT] at this; cases this
 obtain ⟨hTn,rfl⟩:=hTn
 rw [← hρ] at hop
 refine (op_sound hI hE hc hop).mono fun val w' ⟨C',h1,h2,h3,h4,h5⟩ => ?_
 rw [hρ] at h2
 have hT' : updT T [((site + 1,0),.mapf 0 [])] (site + 1,0) = some (.mapf 0 []):=by simp [zya7]
 have hlook : ∀ id : Id,id ≠ ((site + 1,0),0,0) → C'.ρ id = flat T id:=fun id hid => by
  rw [h2]; simp only [updL,nid]; rw [if_neg (fun e => hid e.symm)]
 obtain ⟨C2,q1,q2,q3,q4,q5⟩:=mapf_step h3 (site + 1,0) none (es:=[]) hT' (by rw [h2]; simp [updL,nid]) rfl (fun j ob hob => by
   rw [hlook _ (by simp),flat_none hTn] at hob; cases hob)
  (fun x y hy => by rw [hlook _ (by simp; intro _ e; exact hy e)]; exact flat_y hy)
  (fun id hid _ => by
   rw [hlook id (fun e => hid (by rw [e]))]
   exact zpa7 (by simp only [zya7]; rw [if_neg (fun e => hid e.symm)]))
  (by simp) (fun j k cj hcj => by simp at hcj)
 exact ⟨C2,q1.trans h1,q3,q4,h4.trans q5,h5.grow q5⟩
theorem opT_plain {K : Orc} (hI : Inv B C) (hρ : C.ρ = flat T) (hE : RepE C g a) (hk : (∀ f args sc,k ≠ .call f args sc) ∧ ∀ x args sc,k ≠ .callV x args sc) (hc : cOp P m o = some k) (h : opT K site k g T = some (v,us)) : Does P o a C.w (OwesT B C T v us):=by
 unfold opT at h
 split at h
 ·exact absurd rfl (hk.1 _ _ _)
 ·exact absurd rfl (hk.2 _ _ _)
 ·rename_i sz
  split at h
  ·rename_i _ nv _ _ _ upd hop
   split at h
   ·rename_i hsz
    subst hsz
    simp only [Option.some.injEq,Prod.mk.injEq] at h
    obtain ⟨rfl,rfl⟩:=h
    obtain ⟨nv',q1,q2⟩:=opE_mvNil_r hop
    simp only [AVal.rsl.injEq] at q1
    obtain ⟨_,rfl,_⟩:=q1
    rw [← hρ] at hop
    refine (op_sound hI hE (cOp_mvNil hc) hop).mono fun val w' ⟨C',h1,h2,h3,h4,h5⟩ => ?_
    subst q2
    rw [hρ] at h2
    obtain ⟨C2,k1,k2,k3,k4,k5⟩:=fam_new (n:=0) h3 h2
    obtain ⟨_,q1,_⟩:=opE_mvNil_r hop
    rw [q1] at h5
    simp only [AVal.rsl.injEq] at q1
    obtain ⟨_,rfl,_⟩:=q1
    exact ⟨C2,k1.trans h1,k3,k4,h4.trans k5,h5.grow k5⟩
   ·cases h
  ·cases h
 ·rename_i sz bytes l cc
  split at h
  ·rename_i _ nv _ _ len upd hop
   split at h
   ·rename_i hsz
    subst hsz
    simp only [Option.some.injEq,Prod.mk.injEq] at h
    obtain ⟨rfl,rfl⟩:=h
    obtain ⟨nv',n,q1,q2⟩:=opE_mk_r hop
    rw [← hρ] at hop
    refine (op_sound hI hE (cOp_mk hc) hop).mono fun val w' ⟨C',h1,h2,h3,h4,h5⟩ => ?_
    subst q2
    simp only [AVal.rsl.injEq] at q1
    obtain ⟨rfl,rfl,rfl,rfl,rfl⟩:=q1
    rw [hρ] at h2
    obtain ⟨C2,k1,k2,k3,k4,k5⟩:=fam_new h3 h2
    exact ⟨C2,k1.trans h1,k3,k4,h4.trans k5,h5.grow k5⟩
   ·cases h
  ·cases h
 ·exact appF_ok hI hρ hE hc h
 ·split at h
  ·rename_i _ v' upd hop
   simp only [Option.some.injEq,Prod.mk.injEq] at h
   obtain ⟨rfl,rfl⟩:=h
   exact mkMapF_ok hI hρ hE hc hop
  ·cases h
 ·rename_i ag sh am ak av
  split at h
  ·rename_i r hX
   split at h
   ·rename_i pv es hT
    exact mupF_ok hI hρ hE hc hX hT h
   ·exact flatE_ok hI hρ hE hc h
  ·exact flatE_ok hI hρ hE hc h
 ·rename_i mv n ax av
  split at h
  ·rename_i r ver i hX
   split at h
   ·rename_i ver' pv cells hT
    split at h
    ·rename_i hcond
     obtain ⟨rfl,rfl⟩:=hcond
     exact stF_ok hI hρ hE hc hX hT h
    ·cases h
   ·exact flatE_ok hI hρ hE hc h
  ·exact flatE_ok hI hρ hE hc h
 ·exact flatE_ok hI hρ hE hc h
end
end Go.Am

namespace Go.Am
variable [Glob]
theorem zid7 (ρ : TLook) : ∀ (n : Nat) (todo done res : List RId),collect ρ n todo done = some res → done.Nodup → (∀ i ∈ done,∃ o,ρ i = some o ∧ ∀ j ∈ o.rids,j ∈ done ∨ j ∈ todo) →
  res.Nodup ∧ (∀ i ∈ done,i ∈ res) ∧ (∀ i ∈ todo,i ∈ res) ∧ (∀ i ∈ res,∃ o,ρ i = some o ∧ ∀ j ∈ o.rids,j ∈ res) ∧ ∃ l,res = done ++ l
 | 0,todo,done,res,h,_,_ => by simp [collect] at h
 | n + 1,[],done,res,h,hn,hc => by
  simp only [collect,Option.some.injEq] at h
  subst h
  refine ⟨hn,fun _ h => h,by simp,fun i hi => ?_,[],by simp⟩
  obtain ⟨o,h1,h2⟩:=hc i hi
  exact ⟨o,h1,fun j hj => (h2 j hj).resolve_right (by simp)⟩
 | n + 1,id :: todo,done,res,h,hn,hc => by
  simp only [collect] at h
  split at h
  ·rename_i hid
   obtain ⟨r1,r2,r3,r4,r5⟩:=zid7 ρ n todo done res h hn (fun i hi => by
    obtain ⟨o,h1,h2⟩:=hc i hi
    refine ⟨o,h1,fun j hj => ?_⟩
    rcases h2 j hj with h3 | h3
    ·exact .inl h3
    ·cases h3 with
     | head => exact .inl hid
     | tail _ h3 => exact .inr h3)
   refine ⟨r1,r2,fun i hi => ?_,r4,r5⟩
   cases hi with
   | head => exact r2 _ hid
   | tail _ hi => exact r3 i hi
  ·rename_i hid
   split at h
   ·cases h
   ·rename_i o ho
    obtain ⟨r1,r2,r3,r4,l,r5⟩:=zid7 ρ n (todo ++ o.rids) (done ++ [id]) res h (by
     rw [List.nodup_append]
     exact ⟨hn,by simp,fun a ha b hb => by simp at hb; subst hb; intro e; subst e; exact hid ha⟩) (fun i hi => by
     rcases List.mem_append.1 hi with hi | hi
     ·obtain ⟨o',h1,h2⟩:=hc i hi
      refine ⟨o',h1,fun j hj => ?_⟩
      rcases h2 j hj with h3 | h3
      ·exact .inl (List.mem_append.2 (.inl h3))
      ·cases h3 with
       | head => exact .inl (by simp)
       | tail _ h3 => exact .inr (List.mem_append.2 (.inl h3))
     ·simp at hi
      subst hi
      exact ⟨o,ho,fun j hj => .inr (List.mem_append.2 (.inr hj))⟩)
    refine ⟨r1,fun i hi => r2 i (List.mem_append.2 (.inl hi)),fun i hi => ?_,r4,[id] ++ l,by simp [r5]⟩
    cases hi with
    | head => exact r2 _ (by simp)
    | tail _ hi => exact r3 i (List.mem_append.2 (.inl hi))
theorem zze7 {ρ : TLook} : ∀ {order : List RId} {os : List TObj},gather ρ order = some os → os.length = order.length ∧ ∀ (j : Nat) (i : RId),order[j]? = some i → os[j]? = ρ i
 | [],os,h => by simp [gather] at h; subst h; simp
 | id :: r,os,h => by
  simp only [gather] at h
  split at h
  ·rename_i o os' ho hos
   simp only [Option.some.injEq] at h
   subst h
   obtain ⟨h1,h2⟩:=zze7 hos
   refine ⟨by simp [h1],fun j i hj => ?_⟩
   cases j with
   | zero => simp at hj; subst hj; simp [ho]
   | succ j => simp at hj; simpa using h2 j i hj
  ·cases h
theorem zjc7 : ∀ {order : List RId} {i : RId},i ∈ order → order[zac7 order i]? = some i
 | [],i,h => by simp at h
 | k :: r,i,h => by
  simp only [zac7]
  split
  ·rename_i e; subst e; rfl
  ·rename_i e
   have : i ∈ r:=by
    cases h with
    | head => exact absurd rfl e
    | tail _ h => exact h
   simpa using zjc7 this
theorem indexIn_lt {order : List RId} {i : RId} (h : i ∈ order) : zac7 order i < order.length:=(List.getElem?_eq_some_iff.1 (zjc7 h)).1
theorem zvd7 {order : List RId} (hn : order.Nodup) : ∀ {j : Nat} {i : RId},order[j]? = some i → zac7 order i = j:=by
 intro j i h
 have h1:=zjc7 (List.mem_of_getElem? h)
 have h2:=(List.getElem?_eq_some_iff.1 h)
 have h3:=(List.getElem?_eq_some_iff.1 h1)
 obtain ⟨l2,e2⟩:=h2
 obtain ⟨l3,e3⟩:=h3
 exact (List.getElem_inj hn).1 (e3.trans e2.symm)
def OwnSet (C : Ctx) : Cells:=fun b x => ∃ id o,C.ρ id = some o ∧ o.own = true ∧ ∃ j,j < (C.μ id).n ∧ b = (C.μ id).b ∧ x = (C.μ id).o + j
def OwnBlk (C : Ctx) : Nat → Prop:=fun b => ∃ id x,C.ρ id = some (.blk x) ∧ (C.μ id).b = b
abbrev baseOf (C : Ctx) : Base:=⟨C.w,C.F,OwnSet C,OwnBlk C,[]⟩
def zub7 (os : List TObj) : TLook:=fun id => if id.1 = 0 then os[id.2]? else none
def PostOK (C : Ctx) (os : List TObj) (v : AVal) (os' : List TObj) (e : Ending) (w' : World) : Prop :=
 ∃ val C',e = .returned val ∧ C'.w = w' ∧ C'.ρ = flat (zub7 os') ∧ Inv (baseOf C) C' ∧ RepA C' v val ∧
  Ext (fun i => i) (fun id => id.1.1 = 0 ∧ id.1.2 < os.length) C C'
def CallOK (P : Program) (f : FuncId) (args : List AVal) (os : List TObj) (v : AVal) (os' : List TObj) : Prop :=
 ∀ (C : Ctx) (vals : Array Value),C.ρ = flat (zub7 os) → GlobOK C.F → Inv (baseOf C) C → RepL C args vals.toList →
  Calls P f vals C.w (PostOK C os v os')
def YieldOK (P : Program) (args : List AVal) (os : List TObj) (v : AVal) (os' : List TObj) : Prop :=
 ∀ (C : Ctx) (vals : Array Value) (l : Nat),C.ρ = flat (zub7 os) → GlobOK C.F → Inv (baseOf C) C → RepL C args (vals.push (.func (.yield l) #[] #[])).toList →
  ∃ f tmps assign body,(Instr.yield l vals).run P C.w = .ok (.round l f tmps assign body) C.w ∧ RoundIn Fence.wide 0 P l f tmps assign body C.w (PostOK C os v os')
def zbe7 (P : Program) (K : Orc) : Prop:=∀ f args os v os',K f args os = some (v,os') → (f ≠ YID ∧ zkb7 P f = true ∧ CallOK P f args os v os') ∨ (f = YID ∧ zkb7 P f = false ∧ YieldOK P args os v os')
theorem renL_get (f : Id → Id) : ∀ (l : List AVal) (j : Nat),(AVal.renL f l)[j]? = (l[j]?).map (AVal.ren f)
 | [],j => by simp [AVal.renL]
 | a :: r,0 => by simp [AVal.renL]
 | a :: r,j + 1 => by simp [AVal.renL,renL_get f r j]
theorem idsL_get : ∀ {l : List AVal} {j : Nat} {a : AVal},l[j]? = some a → ∀ i ∈ a.ids,i ∈ AVal.idsL l
 | [],j,a,h,i,hi => by simp at h
 | b :: r,0,a,h,i,hi => by simp at h; subst h; simp [AVal.idsL,hi]
 | b :: r,j + 1,a,h,i,hi => by simp at h; simp [AVal.idsL,idsL_get h i hi]
theorem own_ren (f : Id → Id) (o : Obj) : (o.ren f).own = o.own:=by
 cases o
 case blk x => cases x <;> rfl
 all_goals rfl
theorem zne7 {f : Id → Id} {o : Obj} {x : Blk} (h : o.ren f = .blk x) : ∃ x',o = .blk x':=by
 cases o
 case blk x' => exact ⟨x',rfl⟩
 all_goals (simp [Obj.ren] at h)
theorem zke7 {C C' : Ctx} {i j : Id} {f : Id → Id} (h : C'.ρ j = (C.ρ i).map (Obj.ren f)) (hm : C'.μ j = C.μ i) : boxAt C' j = boxAt C i ∧ arrAt C' j = arrAt C i ∧ blkAt C' j = blkAt C i:=by
 unfold boxAt arrAt blkAt
 rw [h,hm]
 cases e : C.ρ i with
 | none => simp
 | some ob =>
  cases ob
  case blk x => cases x <;> simp [Obj.ren]
  all_goals simp [Obj.ren]
theorem KeptB.reflM {w : World} {T : Cells} {M : Nat → Prop} (hM : ∀ b,M b → nc w b) : KeptB w w T M :=
 ⟨rfl,rfl,fun _ _ _ => .inr rfl,fun b _ h => ⟨hM b h,hM b h⟩,fun _ _ => rfl,Nat.le_refl _⟩
theorem EntsOK.ren {C C' : Ctx} {f : Id → Id} {D : Id → Prop} (he : Ext f D C C') (hF : C'.F = C.F) : ∀ {es : List (Dat × AVal)} {ens : List MapEntry},EntsOK C es ens → (∀ i ∈ AVal.idsL (es.map (·.2)),D i) → EntsOK C' (es.map fun p => (p.1,p.2.ren f)) ens
 | [],ens,h,_ => h
 | e :: r,ens,h,hi => by
  simp only [EntsOK,List.map_cons] at h ⊢
  obtain ⟨en,ens',h1,h2,h3,h4⟩:=h
  simp only [List.map_cons,AVal.idsL,List.mem_append] at hi
  exact ⟨en,ens',h1,by rw [hF]; exact h2,RepA.ext he e.2 _ (fun i hi' => hi i (.inl hi')) h3,EntsOK.ren he hF h4 fun i hi' => hi i (.inr hi')⟩
theorem ObjOK.ren {C C' : Ctx} {f : Id → Id} {D : Id → Prop} {L : Loc} {o : Obj} (h : ObjOK C L o) (he : Ext f D C C') (hw : C'.w = C.w) (hF : C'.F = C.F) (hi : ∀ i ∈ o.ids,D i) : ObjOK C' L (o.ren f):=by
 have hown : OwnOK C L → OwnOK C' L:=fun ho j hj => by rw [hw,hF]; exact ho j hj
 cases o with
 | blk x =>
  cases x with
  | map es =>
   obtain ⟨h0,ens,clock,h1,hb,h2⟩:=h
   exact ⟨h0,ens,clock,by rw [hw]; exact h1,hb,h2.ren he hF hi⟩
  | loop k st env =>
   obtain ⟨h0,r,h1,h2,h3,h4⟩:=h
   refine ⟨h0,r,by rw [hw]; exact h1,h2,h3,fun p hp => ?_⟩
   obtain ⟨q,hq,rfl⟩:=List.mem_map.1 hp
   refine RepA.ext he q.2 _ (fun i hi' => hi i ?_) (h4 q hq)
   obtain ⟨n,hn⟩:=List.getElem?_of_mem (List.mem_map_of_mem (f:=fun x : Nat × AVal => x.2) hq)
   exact idsL_get hn i hi'
  | dead =>
   obtain ⟨h0,r,h1⟩:=h
   exact ⟨h0,r,by rw [hw]; exact h1⟩
 | box cs =>
  refine ⟨by rw [(zhd7 f cs).1]; exact h.1,by rw [(zhd7 f cs).2]; exact h.2.1,hown h.2.2.1,fun j a ha => ?_⟩
  rw [renL_get] at ha
  obtain ⟨b,hb,rfl⟩:=zga7 ha
  obtain ⟨v,hv,hr⟩:=h.2.2.2 j b hb
  exact ⟨v,by rw [hw]; exact hv,RepA.ext he b v (fun i hib => hi i (idsL_get hb i hib)) hr⟩
 | rarr sz ver es =>
  obtain ⟨h1,⟨cap,h2,h2'⟩,h3,h4,h5⟩:=h
  refine ⟨h1,⟨cap,h2,by simpa using h2'⟩,fun row hr => ?_,hown h4,fun i row hrow j a ha => ?_⟩
  ·obtain ⟨row',hr',rfl⟩:=List.mem_map.1 hr
   rw [(zhd7 f row').1,(zhd7 f row').2]
   exact h3 row' hr'
  ·rw [List.getElem?_map] at hrow
   obtain ⟨row',hrow',rfl⟩:=zga7 hrow
   rw [renL_get] at ha
   obtain ⟨b,hb,rfl⟩:=zga7 ha
   obtain ⟨v,hv,hr⟩:=h5 i row' hrow' j b hb
   exact ⟨v,by rw [hw]; exact hv,RepA.ext he b v (fun x hx => hi x (by simp only [Obj.ids]; exact List.mem_flatMap.2 ⟨row',List.mem_of_getElem? hrow',idsL_get hb x hx⟩)) hr⟩
 | arr sz ver fz es =>
  obtain ⟨h1,h2,h3,h4⟩:=h
  refine ⟨h1,h2,fun e => ⟨hown (h3 e).1,?_⟩,fun e => by rw [hF]; exact h4 e⟩
  rw [hw,hF]
  exact (h3 e).2
theorem cellA_ren (f : RId → RId) (r : RId) (pv i : Nat) (c : Cell) : (cellA r pv i c).ren (liftF f) = cellA (f r) pv i c:=by
 cases c with
 | nil => rfl
 | d l => rfl
 | own fr fz sz l => cases fr <;> rfl
theorem rowsA_ren (f : RId → RId) (r : RId) (pv : Nat) : ∀ (k : Nat) (cells : List Cell),(rowsA r pv k cells).map (AVal.renL (liftF f)) = rowsA (f r) pv k cells
 | k,[] => rfl
 | k,c :: cs => by simp [rowsA,AVal.renL,cellA_ren,rowsA_ren f r pv (k + 1) cs]
theorem entsA_ren (f : RId → RId) (r : RId) (pv : Nat) : ∀ (k : Nat) (es : List (Dat × Cell)),(entsA r pv k es).map (fun p => (p.1,p.2.ren (liftF f))) = entsA (f r) pv k es
 | k,[] => rfl
 | k,c :: cs => by simp [entsA,cellA_ren,entsA_ren f r pv (k + 1) cs]
theorem entsA_ids (r : RId) (pv : Nat) : ∀ (k : Nat) (es : List (Dat × Cell)),∀ x ∈ AVal.idsL ((entsA r pv k es).map (·.2)),x.1 = r
 | k,[],x,h => by simp [entsA,AVal.idsL] at h
 | k,c :: cs,x,h => by
  simp only [entsA,List.map_cons,AVal.idsL,List.mem_append] at h
  rcases h with h | h
  ·cases hc : c.2 with
   | nil => rw [hc] at h; simp [cellA,AVal.ids] at h
   | d l => rw [hc] at h; simp [cellA,AVal.ids] at h
   | own fr fz sz l =>
    rw [hc] at h
    cases fr with
    | true => simp [cellA,AVal.ids] at h; rw [h]
    | false => simp [cellA,AVal.ids] at h
  ·exact entsA_ids r pv (k + 1) cs x h
theorem kidO_ren (f : Id → Id) (pv : Nat) (c : Option Cell) : (kidO pv c).ren f = kidO pv c:=by
 obtain ⟨sz,fz,l,q⟩:=zmc7 pv c
 rw [q]; rfl
theorem flatR_ren (f : RId → RId) (r : RId) (i j : Nat) (o : TObj) : flatR (f r) i j (o.tren f) = (flatR r i j o).map (Obj.ren (liftF f)):=by
 cases o with
 | plain o => simp only [TObj.tren,flatR]; split <;> rfl
 | fam ver pv fz cells =>
  simp only [TObj.tren,flatR]
  split
  ·cases i with
   | zero =>
    simp only [Option.map_some,Option.some.injEq]
    cases fz with
    | true => rfl
    | false => simp [Obj.ren,rowsA_ren]
   | succ i => simp [kidO_ren]
  ·rfl
 | mapf pv es =>
  simp only [TObj.tren,flatR]
  split
  ·cases i with
   | zero => simp [Obj.ren,entsA_ren]
   | succ i => simp [kidO_ren]
  ·rfl
theorem flatR_ids {r : RId} {i j : Nat} {o : TObj} {ob : Obj} (h : flatR r i j o = some ob) : ∀ x ∈ ob.ids,x.1 ∈ o.rids ∨ x.1 = r:=by
 intro x hx
 cases o with
 | mapf pv es =>
  simp only [flatR] at h
  split at h
  ·cases i with
   | zero =>
    simp only [Option.some.injEq] at h
    subst h
    exact .inr (entsA_ids r pv 0 es x hx)
   | succ i =>
    simp only [Option.some.injEq] at h
    subst h
    obtain ⟨sz,fz,l,q⟩:=zmc7 pv (es[i]?.map (·.2))
    rw [q] at hx
    simp [Obj.ids] at hx
  ·cases h
 | plain o =>
  simp only [flatR] at h
  split at h
  ·simp only [Option.some.injEq] at h
   subst h
   exact .inl (List.mem_map.2 ⟨x,hx,rfl⟩)
  ·cases h
 | fam ver pv fz cells =>
  simp only [flatR] at h
  split at h
  ·cases i with
   | zero =>
    simp only [Option.some.injEq] at h
    subst h
    cases fz with
    | true => simp [Obj.ids] at hx
    | false =>
     simp only [Bool.false_eq_true,if_false,Obj.ids] at hx
     obtain ⟨row,hr,hx⟩:=List.mem_flatMap.1 hx
     obtain ⟨k,hk⟩:=List.getElem?_of_mem hr
     rw [zxb7] at hk
     obtain ⟨c,_,rfl⟩:=zga7 hk
     right
     cases c with
     | nil => simp [cellA,AVal.idsL,AVal.ids] at hx
     | d l => simp [cellA,AVal.idsL,AVal.ids] at hx
     | own fr fz' sz l =>
      cases fr with
      | false => simp [cellA,AVal.idsL,AVal.ids] at hx
      | true => simp [cellA,AVal.idsL,AVal.ids] at hx; rw [hx]
   | succ i =>
    simp only [Option.some.injEq] at h
    subst h
    obtain ⟨sz,fz',l,q⟩:=zmc7 pv cells[i]?
    rw [q] at hx
    simp [Obj.ids] at hx
  ·cases h
section
variable {P : Program} {o : Oper} {a : Act} {B : Base} {C : Ctx} {g : Nat → AVal} {T : TLook}
def zra7 (C1 : Ctx) (order : List RId) (os : List TObj) : Ctx :=
 { w:=C1.w,F:=C1.F,μ:=fun id => C1.μ (order[id.1.2]?.getD (0,0),id.2),ρ:=flat (zub7 os) }
theorem callee_inv {C1 : Ctx} (hI : Inv B C1) (hT : C1.ρ = flat T) {order : List RId} {os : List TObj} (hn : order.Nodup) (hcl : ∀ i ∈ order,∃ o,T i = some o ∧ ∀ j ∈ o.rids,j ∈ order)
  (hos : os.length = order.length) (hget : ∀ (j : Nat) (i : RId),order[j]? = some i → os[j]? = T i) :
  Ext (liftF (toPos order)) (fun i => i.1 ∈ order) C1 (zra7 C1 order (os.map (TObj.tren (toPos order)))) ∧
  Inv (baseOf (zra7 C1 order (os.map (TObj.tren (toPos order))))) (zra7 C1 order (os.map (TObj.tren (toPos order)))):=by
 have look : ∀ i : Id,i.1 ∈ order → (zra7 C1 order (os.map (TObj.tren (toPos order)))).ρ (liftF (toPos order) i) = (C1.ρ i).map (Obj.ren (liftF (toPos order))):=by
  intro i hi
  have h1:=hget _ _ (zjc7 hi)
  obtain ⟨o,h2,_⟩:=hcl _ hi
  rw [h2] at h1
  rw [hT]
  simp only [zra7,flat,liftF,h2]
  have : zub7 (os.map (TObj.tren (toPos order))) (toPos order i.1) = some (o.tren (toPos order)):=by simp [zub7,toPos,h1]
  rw [this]
  exact flatR_ren _ _ _ _ _
 have locOf : ∀ i : Id,i.1 ∈ order → (zra7 C1 order (os.map (TObj.tren (toPos order)))).μ (liftF (toPos order) i) = C1.μ i:=by
  intro i hi
  simp [zra7,toPos,liftF,zjc7 hi]
 have back : ∀ id o,(zra7 C1 order (os.map (TObj.tren (toPos order)))).ρ id = some o → ∃ (i : Id) (o1 : Obj),i.1 ∈ order ∧ id = liftF (toPos order) i ∧ C1.ρ i = some o1 ∧ o = o1.ren (liftF (toPos order)):=by
  intro id o ho
  have ho':=ho
  simp only [zra7,flat,zub7] at ho
  split at ho
  ·rename_i o' he
   split at he
   ·rename_i h0
    rw [List.getElem?_map] at he
    obtain ⟨o1,h1,h2⟩:=zga7 he
    have hlt:=(List.getElem?_eq_some_iff.1 h1).1
    have hi : order[id.1.2]? = some order[id.1.2]:=List.getElem?_eq_getElem (by omega)
    have hid : id = liftF (toPos order) (order[id.1.2],id.2):=by
     rw [liftF,toPos,zvd7 hn hi,← h0]
    have hmem : order[id.1.2] ∈ order:=List.getElem_mem _
    have:=look (order[id.1.2],id.2) hmem
    rw [← hid,ho'] at this
    obtain ⟨ob,h3,h4⟩:=zga7 this.symm
    exact ⟨_,ob,hmem,hid,h3,h4.symm⟩
   ·cases he
  ·cases ho
 have hext : Ext (liftF (toPos order)) (fun i => i.1 ∈ order) C1 (zra7 C1 order (os.map (TObj.tren (toPos order)))):=by
  refine ⟨fun _ _ _ h => h,fun i L hi hb => ?_,fun i A hi ha => ⟨A,?_,Nat.le_refl _,fun _ => ⟨rfl,rfl,Nat.le_refl _⟩⟩,fun i b hi hb => ?_⟩
  ·rw [(zke7 (look i hi) (locOf i hi)).1]; exact hb
  ·rw [(zke7 (look i hi) (locOf i hi)).2.1]; exact ha
  ·rw [(zke7 (look i hi) (locOf i hi)).2.2]; exact hb
 have hids : ∀ i : Id,i.1 ∈ order → ∀ o1,C1.ρ i = some o1 → ∀ x ∈ o1.ids,x.1 ∈ order:=by
  intro i hi o1 ho1 x hx
  obtain ⟨o,h2,h3⟩:=hcl _ hi
  rw [hT] at ho1
  simp only [flat,h2] at ho1
  rcases flatR_ids ho1 x hx with h | h
  ·exact h3 _ h
  ·rw [h]; exact hi
 refine ⟨hext,?_⟩
 refine ⟨fun id o ho => ?_,fun i1 i2 o1 o2 ho1 ho2 hw1 hw2 hne j1 j2 hj1 hj2 => ?_,fun id o ho hw j hj => .inl ⟨id,o,ho,hw,j,hj,rfl,rfl⟩,fun i1 i2 x1 x2 hx1 hx2 hne => ?_,fun i x hx => .inl ⟨i,x,hx,rfl⟩,KeptB.reflM ?_,fun b o v hv => hI.Fw b o v hv,fun _ _ _ h => h,fun _ _ _ h => .inl h⟩
 ·obtain ⟨i,o1,hi,rfl,h1,rfl⟩:=back id o ho
  rw [locOf i hi]
  exact (hI.objs i o1 h1).ren hext rfl rfl (hids i hi o1 h1)
 ·obtain ⟨a1,b1,c1,rfl,d1,rfl⟩:=back i1 o1 ho1
  obtain ⟨a2,b2,c2,rfl,d2,rfl⟩:=back i2 o2 ho2
  rw [locOf a1 c1] at hj1 ⊢
  rw [locOf a2 c2] at hj2 ⊢
  rw [own_ren] at hw1 hw2
  exact hI.disj a1 a2 b1 b2 d1 d2 hw1 hw2 (fun e => hne (by rw [e])) j1 j2 hj1 hj2
 ·obtain ⟨a1,b1,c1,rfl,d1,e1⟩:=back i1 _ hx1
  obtain ⟨a2,b2,c2,rfl,d2,e2⟩:=back i2 _ hx2
  rw [locOf a1 c1,locOf a2 c2]
  obtain ⟨y1,rfl⟩:=zne7 e1.symm
  obtain ⟨y2,rfl⟩:=zne7 e2.symm
  exact hI.bdisj a1 a2 y1 y2 d1 d2 (fun e => hne (by rw [e]))
 ·rintro b ⟨i,x,hx,rfl⟩
  obtain ⟨a1,b1,c1,rfl,d1,e1⟩:=back i _ hx
  rw [locOf a1 c1]
  obtain ⟨y1,rfl⟩:=zne7 e1.symm
  exact (hI.objs a1 _ d1).2.nc.2
theorem scal_rep {C C' : Ctx} {v : AVal} {val : Value} (h : scalV v = true) (hr : RepA C v val) : RepA C' v val:=by
 have one : ∀ d v,scalD d = true → RepV C.F d v → RepV C'.F d v:=by
  intro d v hd hv
  refine ⟨?_,hv.2⟩
  have:=hv.1
  cases d <;> simp [scalD] at hd <;> simpa only [RepD] using this
 cases v with
 | dat d => simp only [RepA] at hr ⊢; exact one d val h hr
 | tup l =>
  simp only [RepA] at hr ⊢
  obtain ⟨cs,h1,h2⟩:=hr
  refine ⟨cs,h1,?_⟩
  simp only [scalV] at h
  generalize cs.toList = us at h2
  clear h1
  induction l generalizing us with
  | nil => simpa only [RepL] using h2
  | cons x r ih =>
   simp only [RepL] at h2 ⊢
   obtain ⟨c,cs',e1,e2,e3⟩:=h2
   simp only [List.all_cons,Bool.and_eq_true] at h
   refine ⟨c,cs',e1,?_,ih h.2 cs' e3⟩
   cases x with
   | dat d => simp only [RepA] at e2 ⊢; exact one d c h.1 e2
   | _ => simp at h
 | _ => simp [scalV] at h
end
mutual
theorem RepA.live {C : Ctx} : ∀ (a : AVal) (v : Value),RepA C a v → ∀ i ∈ a.ids,∃ ob,C.ρ i = some ob
 | .dat d,v,h,i,hi => by simp [AVal.ids] at hi
 | .nils,v,h,i,hi => by simp [AVal.ids] at hi
 | .emp t,v,h,i,hi => by simp [AVal.ids] at hi
 | .cap0,v,h,i,hi => by simp [AVal.ids] at hi
 | .junk,v,h,i,hi => by simp [AVal.ids] at hi
 | .nilp,v,h,i,hi => by simp [AVal.ids] at hi
 | .undef,v,h,i,hi => by simp [AVal.ids] at hi
 | .fp l,v,h,i,hi => by simp [AVal.ids] at hi
 | .ref id off,v,h,i,hi => by
  simp only [AVal.ids,List.mem_singleton] at hi
  subst hi
  simp only [RepA] at h
  obtain ⟨L,h1,_⟩:=h
  unfold boxAt at h1
  split at h1
  ·rename_i e; exact ⟨_,e⟩
  ·cases h1
 | .eref id ver j off,v,h,i,hi => by
  simp only [AVal.ids,List.mem_singleton] at hi
  subst hi
  simp only [RepA] at h
  obtain ⟨A,p,h1,_⟩:=h
  unfold arrAt at h1
  split at h1
  ·rename_i e; exact ⟨_,e⟩
  ·rename_i e; exact ⟨_,e⟩
  ·cases h1
 | .rsl id ver sz off len,v,h,i,hi => by
  simp only [AVal.ids,List.mem_singleton] at hi
  subst hi
  simp only [RepA] at h
  obtain ⟨A,p,cap,h1,_⟩:=h
  unfold arrAt at h1
  split at h1
  ·rename_i e; exact ⟨_,e⟩
  ·rename_i e; exact ⟨_,e⟩
  ·cases h1
 | .lits sz n l,v,h,i,hi => by
  simp only [RepA] at h
  obtain ⟨b,o,cap,cs,_,_,_,h3,_⟩:=h
  exact RepL.live l cs h3 i (by simpa [AVal.ids] using hi)
 | .agg l,v,h,i,hi => by
  simp only [RepA] at h
  obtain ⟨cs,_,h3,_⟩:=h
  exact RepL.live l _ h3 i (by simpa [AVal.ids] using hi)
 | .tup l,v,h,i,hi => by
  simp only [RepA] at h
  obtain ⟨cs,_,h3⟩:=h
  exact RepL.live l _ h3 i (by simpa [AVal.ids] using hi)
 | .fn f l,v,h,i,hi => by
  simp only [RepA] at h
  obtain ⟨cs,_,h3⟩:=h
  exact RepL.live l _ h3 i (by simpa [AVal.ids] using hi)
 | .bref y id,v,h,i,hi => by
  simp only [AVal.ids,List.mem_singleton] at hi
  subst hi
  simp only [RepA] at h
  obtain ⟨b,h1,_⟩:=h
  unfold blkAt at h1
  split at h1
  ·rename_i e; exact ⟨_,e⟩
  ·cases h1
theorem RepL.live {C : Ctx} : ∀ (l : List AVal) (cs : List Value),RepL C l cs → ∀ i ∈ AVal.idsL l,∃ ob,C.ρ i = some ob
 | [],cs,h,i,hi => by simp [AVal.idsL] at hi
 | a :: r,cs,h,i,hi => by
  simp only [RepL] at h
  obtain ⟨c,cs',_,h2,h3⟩:=h
  simp only [AVal.idsL,List.mem_append] at hi
  rcases hi with hi | hi
  ·exact RepA.live a c h2 i hi
  ·exact RepL.live r cs' h3 i hi
end
theorem cells_live {C : Ctx} {L : Loc} : ∀ (l : List AVal) (k : Nat),(∀ (j : Nat) (a : AVal),l[j]? = some a → ∃ v,C.w.cell? ⟨L.b,L.o + (k + j),none⟩ = some v ∧ RepA C a v) → ∀ i ∈ AVal.idsL l,∃ ob,C.ρ i = some ob
 | [],k,h,i,hi => by simp [AVal.idsL] at hi
 | a :: r,k,h,i,hi => by
  simp only [AVal.idsL,List.mem_append] at hi
  rcases hi with hi | hi
  ·obtain ⟨v,_,hr⟩:=h 0 a rfl
   exact RepA.live a v hr i hi
  ·exact cells_live r (k + 1) (fun j b hb => by
    obtain ⟨v,h1,h2⟩:=h (j + 1) b (by simpa using hb)
    exact ⟨v,by rwa [show k + 1 + j = k + (j + 1) by omega],h2⟩) i hi
theorem ObjOK.live {C : Ctx} {L : Loc} {ob : Obj} (h : ObjOK C L ob) : ∀ i ∈ ob.ids,∃ o',C.ρ i = some o':=by
 cases ob with
 | blk x =>
  cases x with
  | map es =>
   obtain ⟨_,ens,clock,_,_,h4⟩:=h
   intro i hi
   simp only [Obj.ids] at hi
   have : ∀ (es : List (Dat × AVal)) (ens : List MapEntry),EntsOK C es ens → i ∈ AVal.idsL (es.map (·.2)) → ∃ o',C.ρ i = some o':=by
    intro es
    induction es with
    | nil => intro ens _ h; simp [AVal.idsL] at h
    | cons e r ih =>
     intro ens hE h
     simp only [EntsOK] at hE
     obtain ⟨en,ens',_,_,e3,e4⟩:=hE
     simp only [List.map_cons,AVal.idsL,List.mem_append] at h
     rcases h with h | h
     ·exact RepA.live _ _ e3 i h
     ·exact ih _ e4 h
   exact this es _ h4 hi
  | dead => intro i hi; simp [Obj.ids] at hi
  | loop k st env =>
   obtain ⟨_,r,_,_,_,h4⟩:=h
   intro i hi
   simp only [Obj.ids] at hi
   have : ∀ (l : List AVal),i ∈ AVal.idsL l → ∃ x ∈ l,i ∈ x.ids:=by
    intro l
    induction l with
    | nil => intro h; simp [AVal.idsL] at h
    | cons x r ih =>
     intro h
     simp only [AVal.idsL,List.mem_append] at h
     rcases h with h | h
     ·exact ⟨x,by simp,h⟩
     ·obtain ⟨y,h1,h2⟩:=ih h; exact ⟨y,by simp [h1],h2⟩
   obtain ⟨x,hx,hix⟩:=this _ hi
   obtain ⟨p,hp,rfl⟩:=List.mem_map.1 hx
   exact RepA.live _ _ (h4 p hp) i hix
 | box cs => exact cells_live cs 0 (fun j a ha => by have:=h.2.2.2 j a ha; simpa using this)
 | rarr sz ver es =>
  intro i hi
  simp only [Obj.ids] at hi
  obtain ⟨row,hr,hi⟩:=List.mem_flatMap.1 hi
  obtain ⟨k,hk⟩:=List.getElem?_of_mem hr
  obtain ⟨h1,h2,h3,h4,h5⟩:=h
  exact cells_live (L:=⟨L.b,L.o + k * sz,0⟩) row 0 (fun j a ha => by simpa using h5 k row hk j a ha) i hi
 | arr sz ver fz es => intro i hi; simp [Obj.ids] at hi
theorem updT_zip : ∀ {ids : List RId} {os : List TObj},ids.Nodup → ids.length = os.length → ∀ (ρ : TLook) (i : RId),updT ρ (ids.zip os) i = if i ∈ ids then os[zac7 ids i]? else ρ i
 | [],os,_,_,ρ,i => by simp [updT]
 | id :: r,[],_,hl,ρ,i => by simp at hl
 | id :: r,o :: os,hn,hl,ρ,i => by
  simp only [List.zip_cons_cons,updT]
  rw [List.nodup_cons] at hn
  rw [updT_zip hn.2 (by simpa using hl)]
  by_cases e : id = i
  ·subst e
   simp [hn.1,zac7]
  ·simp only [List.mem_cons,zac7,e,if_false]
   by_cases hi : i ∈ r
   ·simp [hi]
   ·have e' : ¬ i = id:=fun x => e x.symm
    simp [hi,e']
section
variable {P : Program} {o : Oper} {a : Act} {B : Base} {C : Ctx} {g : Nat → AVal} {T : TLook}
theorem ids_spec {order : List RId} {site n : Nat} (hn : order.Nodup) (hm : order.length ≤ n) (hfresh : ∀ j,j < n - order.length → (site + 1,j) ∉ order) :
  ((List.range n).map fun j => zcb7 order site (0,j)).Nodup ∧ (∀ j,j < n → ((List.range n).map fun j => zcb7 order site (0,j))[j]? = some (zcb7 order site (0,j))) ∧
  (∀ i ∈ order,i ∈ ((List.range n).map fun j => zcb7 order site (0,j))) ∧
  (∀ i ∈ ((List.range n).map fun j => zcb7 order site (0,j)),i ∈ order ∨ ∃ j,j < n - order.length ∧ i = (site + 1,j)):=by
 have val : ∀ j,zcb7 order site (0,j) = if h : j < order.length then order[j] else (site + 1,j - order.length):=by
  intro j
  unfold zcb7
  by_cases h : j < order.length
  ·simp [h]
  ·simp [h,List.getElem?_eq_none (Nat.le_of_not_lt h)]
 refine ⟨?_,fun j hj => by simp [hj],fun i hi => ?_,fun i hi => ?_⟩
 ·rw [List.Nodup,List.pairwise_map]
  refine List.Pairwise.imp_of_mem ?_ (List.pairwise_lt_range (n:=n))
  intro x y hx hy hlt
  rw [val,val]
  have hy' : y < n:=by simpa using hy
  by_cases h1 : x < order.length
  ·by_cases h2 : y < order.length
   ·rw [dif_pos h1,dif_pos h2]
    intro e
    have:=(List.getElem_inj hn).1 e
    omega
   ·rw [dif_pos h1,dif_neg h2]
    intro e
    exact hfresh (y - order.length) (by omega) (e ▸ List.getElem_mem h1)
  ·have h2 : ¬ y < order.length:=by omega
   rw [dif_neg h1,dif_neg h2]
   intro e
   simp only [Prod.mk.injEq] at e
   omega
 ·rw [List.mem_map]
  refine ⟨zac7 order i,by have:=indexIn_lt hi; simp; omega,?_⟩
  have:=zjc7 hi
  simp [zcb7,this]
 ·rw [List.mem_map] at hi
  obtain ⟨j,hj,rfl⟩:=hi
  rw [val]
  simp at hj
  split
  ·exact .inl (List.getElem_mem _)
  ·exact .inr ⟨j - order.length,by omega,rfl⟩
def afterCtx (C1 C' : Ctx) (T : TLook) (ids : List RId) (os : List TObj) : Ctx :=
 { w:=C'.w,F:=C'.F,μ:=fun id => if id.1 ∈ ids then C'.μ ((0,zac7 ids id.1),id.2) else C1.μ id,ρ:=flat fun r => if r ∈ ids then os[zac7 ids r]? else T r }
theorem after_inv {C1 Ce C' : Ctx} (hI : Inv B C1) (hT : C1.ρ = flat T) {order : List RId} {os os' : List TObj} {site : Nat} (hn : order.Nodup) (hcl : ∀ i ∈ order,∃ o,T i = some o ∧ ∀ j ∈ o.rids,j ∈ order)
  (hlen : os.length = order.length) (hCe : Ce = zra7 C1 order (os.map (TObj.tren (toPos order)))) (hext : Ext (liftF (toPos order)) (fun i => i.1 ∈ order) C1 Ce)
  (hget : ∀ (j : Nat) (i : RId),order[j]? = some i → os[j]? = T i)
  (hm : order.length ≤ os'.length) (hfresh : ∀ j,j < os'.length - order.length → T (site + 1,j) = none)
  (hρ' : C'.ρ = flat (zub7 os')) (hI' : Inv (baseOf Ce) C') (hx : Ext (fun i => i) (fun id => id.1.1 = 0 ∧ id.1.2 < os.length) Ce C') :
  let ids:=(List.range os'.length).map fun j => zcb7 order site (0,j)
  let C2:=afterCtx C1 C' T ids (os'.map (TObj.tren (zcb7 order site)))
  Inv B C2 ∧ Grow C1 C2 ∧ Ext (liftF (zcb7 order site)) (fun id => id.1.1 = 0 ∧ id.1.2 < os'.length) C' C2:=by
 intro ids C2
 have hfo : ∀ j,j < os'.length - order.length → (site + 1,j) ∉ order:=by
  intro j hj hmem
  obtain ⟨o,h1,_⟩:=hcl _ hmem
  rw [hfresh j hj] at h1; cases h1
 obtain ⟨n1,n2,n3,n4⟩:=ids_spec (site:=site) (n:=os'.length) hn hm hfo
 have hidx : ∀ j,j < os'.length → zac7 ids (zcb7 order site (0,j)) = j:=fun j hj => zvd7 n1 (n2 j hj)
 have hmem : ∀ j,j < os'.length → zcb7 order site (0,j) ∈ ids:=fun j hj => List.mem_of_getElem? (n2 j hj)
 have hilt : ∀ i,i ∈ ids → zac7 ids i < os'.length:=fun i hi => by have:=indexIn_lt hi; simpa [ids] using this
 have hfrom : ∀ i,i ∈ ids → zcb7 order site (0,zac7 ids i) = i:=by
  intro i hi
  have h1:=zjc7 hi
  have h2:=n2 _ (hilt i hi)
  rw [h1] at h2
  exact (Option.some.inj h2).symm
 have look2 : ∀ j p,j < os'.length → C2.ρ (zcb7 order site (0,j),p) = (C'.ρ ((0,j),p)).map (Obj.ren (liftF (zcb7 order site))):=by
  intro j p hj
  rw [hρ']
  simp only [C2,afterCtx,flat,zub7,hmem j hj,if_true,hidx j hj,List.getElem?_map]
  cases e : os'[j]? with
  | none => rfl
  | some o => exact flatR_ren _ _ _ _ _
 have loc2 : ∀ j p,j < os'.length → C2.μ (zcb7 order site (0,j),p) = C'.μ ((0,j),p):=by
  intro j p hj
  simp only [C2,afterCtx,hmem j hj,if_true,hidx j hj]
 have look' : ∀ id ob,C'.ρ id = some ob → id = ((0,id.1.2),id.2) ∧ id.1.2 < os'.length:=by
  intro id ob hob
  rw [hρ'] at hob
  simp only [flat,zub7] at hob
  split at hob
  ·rename_i o' he
   split at he
   ·rename_i h0
    exact ⟨by rw [← h0],(List.getElem?_eq_some_iff.1 he).1⟩
   ·cases he
  ·cases hob
 have hextB : Ext (liftF (zcb7 order site)) (fun id => id.1.1 = 0 ∧ id.1.2 < os'.length) C' C2:=by
  have at2 : ∀ i : Id,i.1.1 = 0 ∧ i.1.2 < os'.length → boxAt C2 (liftF (zcb7 order site) i) = boxAt C' i ∧ arrAt C2 (liftF (zcb7 order site) i) = arrAt C' i ∧ blkAt C2 (liftF (zcb7 order site) i) = blkAt C' i:=by
   intro i hi
   have ei : i = ((0,i.1.2),i.2):=by rw [← hi.1]
   rw [ei]
   exact zke7 (look2 _ _ hi.2) (loc2 _ _ hi.2)
  refine ⟨fun _ _ _ h => h,fun i L hi hb => ?_,fun i A hi ha => ⟨A,?_,Nat.le_refl _,fun _ => ⟨rfl,rfl,Nat.le_refl _⟩⟩,fun i b hi hb => ?_⟩
  ·rw [(at2 i hi).1]; exact hb
  ·rw [(at2 i hi).2.1]; exact ha
  ·rw [(at2 i hi).2.2]; exact hb
 have other : ∀ i : Id,i.1 ∉ ids → C2.ρ i = C1.ρ i ∧ C2.μ i = C1.μ i:=by
  intro i hi
  refine ⟨?_,by simp only [C2,afterCtx,hi,if_false]⟩
  rw [hT]
  simp only [C2,afterCtx]
  exact zpa7 (by simp only [hi,if_false])
 have hback : ∀ i : Id,i.1 ∈ order → (toPos order i.1).1 = 0 ∧ (toPos order i.1).2 < os'.length ∧ (toPos order i.1).2 < os.length ∧ liftF (zcb7 order site) (liftF (toPos order) i) = i:=by
  intro i hi
  have:=indexIn_lt hi
  refine ⟨rfl,by simp only [toPos]; omega,by simp only [toPos]; omega,?_⟩
  simp [zcb7,toPos,liftF,zjc7 hi]
 have notOrder : ∀ i : Id,i.1 ∈ ids → i.1 ∉ order → C1.ρ i = none:=by
  intro i hi ho
  rcases n4 i.1 hi with h | ⟨j,hj,e⟩
  ·exact absurd h ho
  ·rw [hT]
   have : T i.1 = none:=by rw [e]; exact hfresh j hj
   simp [flat,this]
 have hgrow : Grow C1 C2:=by
  refine ⟨fun b x v hv => ?_,fun i L _ hb => ?_,fun i A _ ha => ?_,fun i c _ hb => ?_⟩
  rotate_left 3
  ·by_cases hi : i.1 ∈ ids
   ·by_cases ho : i.1 ∈ order
    ·obtain ⟨b1,b2,b3,b4⟩:=hback i ho
     have h1:=hext.blk i c ho hb
     have h2:=hx.blk _ c ⟨b1,b3⟩ h1
     have h3:=hextB.blk _ c ⟨b1,b2⟩ h2
     simpa [b4] using h3
    ·simp [blkAt,notOrder i hi ho] at hb
   ·obtain ⟨q1,q2⟩:=other i hi
    simpa [blkAt,q1,q2] using hb
  ·have h1 : Ce.F b x = some v:=by subst hCe; exact hv
   exact hI'.Fsub _ _ _ h1
  ·by_cases hi : i.1 ∈ ids
   ·by_cases ho : i.1 ∈ order
    ·obtain ⟨b1,b2,b3,b4⟩:=hback i ho
     have h1:=hext.box i L ho hb
     have h2:=hx.box _ L ⟨b1,b3⟩ h1
     have h3:=hextB.box _ L ⟨b1,b2⟩ h2
     simpa [b4] using h3
    ·simp [boxAt,notOrder i hi ho] at hb
   ·obtain ⟨q1,q2⟩:=other i hi
    simpa [boxAt,q1,q2] using hb
  ·by_cases hi : i.1 ∈ ids
   ·by_cases ho : i.1 ∈ order
    ·obtain ⟨b1,b2,b3,b4⟩:=hback i ho
     obtain ⟨A1,h1,v1,e1⟩:=hext.arr i A ho ha
     obtain ⟨A2,h2,v2,e2⟩:=hx.arr _ A1 ⟨b1,b3⟩ h1
     obtain ⟨A3,h3,v3,e3⟩:=hextB.arr _ A2 ⟨b1,b2⟩ h2
     refine ⟨A3,by simpa [b4] using h3,by omega,fun e => ?_⟩
     obtain ⟨x1,x2,x3⟩:=e1 (by omega)
     obtain ⟨y1,y2,y3⟩:=e2 (by omega)
     obtain ⟨z1,z2,z3⟩:=e3 (by omega)
     exact ⟨by rw [z1,y1,x1],by rw [z2,y2,x2],by omega⟩
    ·simp [arrAt,notOrder i hi ho] at ha
   ·obtain ⟨q1,q2⟩:=other i hi
    exact ⟨A,by simpa [arrAt,q1,q2] using ha,Nat.le_refl _,fun _ => ⟨rfl,rfl,Nat.le_refl _⟩⟩
 have hCew : Ce.w = C1.w:=by subst hCe; rfl
 have hCeF : Ce.F = C1.F:=by subst hCe; rfl
 have hkept : KeptB C1.w C2.w (OwnSet Ce) (OwnBlk Ce):=by have:=hI'.kept; simp only at this; rw [hCew] at this; exact this
 have back0 : ∀ id ob,Ce.ρ id = some ob → ∃ (i : Id) (ob1 : Obj),i.1 ∈ order ∧ C1.ρ i = some ob1 ∧ ob = ob1.ren (liftF (toPos order)) ∧ Ce.μ id = C1.μ i:=by
  intro id ob h1
  subst hCe
  simp only [zra7,flat,zub7] at h1
  split at h1
  ·rename_i o' he
   split at he
   ·rename_i h0
    rw [List.getElem?_map] at he
    obtain ⟨o1,g1,g2⟩:=zga7 he
    have hlt:=(List.getElem?_eq_some_iff.1 g1).1
    have hi : order[id.1.2]? = some order[id.1.2]:=List.getElem?_eq_getElem (by omega)
    have hμ : (zra7 C1 order (os.map (TObj.tren (toPos order)))).μ id = C1.μ (order[id.1.2],id.2):=by simp [zra7,hi]
    have hTi : T order[id.1.2] = some o1:=by rw [← hget _ _ hi,g1]
    have hid1 : id.1 = toPos order order[id.1.2]:=by rw [toPos,zvd7 hn hi,← h0]
    rw [← g2,hid1,flatR_ren] at h1
    obtain ⟨ob1,q1,q2⟩:=zga7 h1
    exact ⟨(order[id.1.2],id.2),ob1,List.getElem_mem _,by rw [hT]; simp only [flat,hTi]; exact q1,q2.symm,hμ⟩
   ·cases he
  ·cases h1
 have hown0 : ∀ b x,OwnSet Ce b x → ∃ (i : Id) (ob : Obj),i.1 ∈ order ∧ C1.ρ i = some ob ∧ ob.own = true ∧ ∃ j,j < (C1.μ i).n ∧ b = (C1.μ i).b ∧ x = (C1.μ i).o + j:=by
  rintro b x ⟨id,ob,h1,h2,j,hj,rfl,rfl⟩
  obtain ⟨i,ob1,q1,q2,rfl,q3⟩:=back0 id ob h1
  rw [q3] at hj ⊢
  rw [own_ren] at h2
  exact ⟨i,ob1,q1,q2,h2,j,hj,rfl,rfl⟩
 have hown0B : ∀ b,OwnBlk Ce b → ∃ (i : Id) (x : Blk),i.1 ∈ order ∧ C1.ρ i = some (.blk x) ∧ b = (C1.μ i).b:=by
  rintro b ⟨id,x,h1,rfl⟩
  obtain ⟨i,ob1,q1,q2,q4,q3⟩:=back0 id _ h1
  obtain ⟨x',rfl⟩:=zne7 q4.symm
  exact ⟨i,x',q1,q2,by rw [q3]⟩
 have ownB : ∀ b x,OwnSet Ce b x → B.O b x ∨ B.w.heap.size ≤ b:=by
  intro b x h
  obtain ⟨i,ob,_,h2,h3,j,hj,rfl,rfl⟩:=hown0 b x h
  exact hI.own i ob h2 h3 j hj
 have hFnew : ∀ b x v,C2.F b x = some v → C1.F b x = some v ∨ C1.w.heap.size ≤ b ∨ OwnSet Ce b x:=by
  intro b x v hv
  rcases hI'.Fnew b x v hv with h | h | h
  ·change Ce.F b x = some v at h; rw [hCeF] at h; exact .inl h
  ·exact .inr (.inr h)
  ·change Ce.w.heap.size ≤ b at h; rw [hCew] at h; exact .inr (.inl h)
 have notOwn : ∀ (i : Id) ob,i.1 ∉ ids → C1.ρ i = some ob → ob.own = true → ∀ j,j < (C1.μ i).n → ¬ OwnSet Ce (C1.μ i).b ((C1.μ i).o + j):=by
  intro i ob hi h1 h2 j hj hcon
  obtain ⟨i',ob',h3,h4,h5,j',hj',e1,e2⟩:=hown0 _ _ hcon
  exact hI.disj i i' ob ob' h1 h4 h2 h5 (fun e => hi (by rw [e]; exact n3 _ h3)) j j' hj hj' ⟨e1,e2⟩
 have notOwnB : ∀ (i : Id) x,i.1 ∉ ids → C1.ρ i = some (.blk x) → ¬ OwnBlk Ce (C1.μ i).b:=by
  intro i x hi h1 hcon
  obtain ⟨i',x',h3,h4,h5⟩:=hown0B _ hcon
  exact hI.bdisj i i' x x' h1 h4 (fun e => hi (by rw [e]; exact n3 _ h3)) h5
 have blkLt : ∀ (i : Id) x,C1.ρ i = some (.blk x) → (C1.μ i).b < C1.w.heap.size:=fun i x h => (hI.objs i _ h).2.nc.1
 have got : ∀ (i : Id) ob,i.1 ∈ ids → C2.ρ i = some ob → ∃ ob',C'.ρ ((0,zac7 ids i.1),i.2) = some ob' ∧ ob = ob'.ren (liftF (zcb7 order site)) ∧ C2.μ i = C'.μ ((0,zac7 ids i.1),i.2):=by
  intro i ob hi hob
  have h1:=look2 _ i.2 (hilt i.1 hi)
  have h2:=loc2 _ i.2 (hilt i.1 hi)
  rw [hfrom i.1 hi] at h1 h2
  rw [show C2.ρ (i.1,i.2) = C2.ρ i from rfl,hob] at h1
  obtain ⟨ob',h3,h4⟩:=zga7 h1.symm
  exact ⟨ob',h3,h4.symm,h2⟩
 have ownLoc : ∀ (i : Id) ob,i.1 ∈ ids → C2.ρ i = some ob → ob.own = true → ∀ j,j < (C2.μ i).n → OwnSet Ce (C2.μ i).b ((C2.μ i).o + j) ∨ C1.w.heap.size ≤ (C2.μ i).b:=by
  intro i ob hi hob hw j hj
  obtain ⟨ob',h1,h2,h3⟩:=got i ob hi hob
  rw [h3] at hj ⊢
  rw [h2,own_ren] at hw
  have:=hI'.own _ ob' h1 hw j hj
  simp only [hCew] at this
  exact this
 have ownLocB : ∀ (i : Id) x,i.1 ∈ ids → C2.ρ i = some (.blk x) → OwnBlk Ce (C2.μ i).b ∨ C1.w.heap.size ≤ (C2.μ i).b:=by
  intro i x hi hob
  obtain ⟨ob',h1,h2,h3⟩:=got i _ hi hob
  rw [h3]
  obtain ⟨x',rfl⟩:=zne7 h2.symm
  have:=hI'.bown _ x' h1
  simp only [hCew] at this
  exact this
 refine ⟨⟨fun i ob hob => ?_,fun i1 i2 o1 o2 ho1 ho2 hw1 hw2 hne j1 j2 hj1 hj2 => ?_,fun i ob hob hw j hj => ?_,fun i1 i2 x1 x2 hx1 hx2 hne => ?_,fun i x hx => ?_,?_,fun b x v hv => hI'.Fw b x v hv,fun b x v hv => hgrow.F _ _ _ (hI.Fsub _ _ _ hv),fun b x v hv => ?_⟩,hgrow,hextB⟩
 ·by_cases hi : i.1 ∈ ids
  ·obtain ⟨ob',h1,h2,h3⟩:=got i ob hi hob
   rw [h2,h3]
   exact (hI'.objs _ ob' h1).ren hextB rfl rfl (fun i' hi' => by
    obtain ⟨o'',h5⟩:=(hI'.objs _ ob' h1).live i' hi'
    obtain ⟨e1,e2⟩:=look' _ _ h5
    exact ⟨by rw [e1],e2⟩)
  ·obtain ⟨q1,q2⟩:=other i hi
   rw [q1] at hob
   rw [q2]
   exact (hI.objs i ob hob).keep hgrow hkept hFnew (fun hw => notOwn i ob hi hob hw) (fun x e => by subst e; exact notOwnB i x hi hob)
 ·by_cases h1 : i1.1 ∈ ids
  ·by_cases h2 : i2.1 ∈ ids
   ·obtain ⟨a1,b1,c1,d1⟩:=got i1 o1 h1 ho1
    obtain ⟨a2,b2,c2,d2⟩:=got i2 o2 h2 ho2
    rw [d1] at hj1 ⊢
    rw [d2] at hj2 ⊢
    rw [c1,own_ren] at hw1
    rw [c2,own_ren] at hw2
    refine hI'.disj _ _ a1 a2 b1 b2 hw1 hw2 (fun e => hne ?_) j1 j2 hj1 hj2
    have q1:=congrArg (fun z : Id => zcb7 order site z.1) e
    have q2:=congrArg (fun z : Id => z.2) e
    simp only at q1 q2
    rw [hfrom i1.1 h1,hfrom i2.1 h2] at q1
    exact Prod.ext q1 q2
   ·obtain ⟨q1,q2⟩:=other i2 h2
    rw [q1] at ho2
    rw [q2] at hj2 ⊢
    intro ⟨e1,e2⟩
    rcases ownLoc i1 o1 h1 ho1 hw1 j1 hj1 with h | h
    ·rw [e1,e2] at h
     exact notOwn i2 o2 h2 ho2 hw2 j2 hj2 h
    ·obtain ⟨⟨v,hv⟩,_⟩:=(hI.objs i2 o2 ho2).ownOK hw2 j2 hj2
     have:=World.block_lt_of_cell? _ _ hv
     simp only at this
     omega
  ·obtain ⟨q1,q2⟩:=other i1 h1
   rw [q1] at ho1
   rw [q2] at hj1 ⊢
   by_cases h2 : i2.1 ∈ ids
   ·intro ⟨e1,e2⟩
    rcases ownLoc i2 o2 h2 ho2 hw2 j2 hj2 with h | h
    ·rw [← e1,← e2] at h
     exact notOwn i1 o1 h1 ho1 hw1 j1 hj1 h
    ·obtain ⟨⟨v,hv⟩,_⟩:=(hI.objs i1 o1 ho1).ownOK hw1 j1 hj1
     have:=World.block_lt_of_cell? _ _ hv
     simp only at this
     omega
   ·obtain ⟨q3,q4⟩:=other i2 h2
    rw [q3] at ho2
    rw [q4] at hj2 ⊢
    exact hI.disj i1 i2 o1 o2 ho1 ho2 hw1 hw2 hne j1 j2 hj1 hj2
 ·by_cases hi : i.1 ∈ ids
  ·rcases ownLoc i ob hi hob hw j hj with h | h
   ·exact ownB _ _ h
   ·exact .inr (Nat.le_trans hI.kept.size h)
  ·obtain ⟨q1,q2⟩:=other i hi
   rw [q1] at hob
   rw [q2] at hj ⊢
   exact hI.own i ob hob hw j hj
 ·by_cases h1 : i1.1 ∈ ids
  ·by_cases h2 : i2.1 ∈ ids
   ·obtain ⟨a1,b1,c1,d1⟩:=got i1 _ h1 hx1
    obtain ⟨a2,b2,c2,d2⟩:=got i2 _ h2 hx2
    rw [d1,d2]
    obtain ⟨y1,rfl⟩:=zne7 c1.symm
    obtain ⟨y2,rfl⟩:=zne7 c2.symm
    refine hI'.bdisj _ _ y1 y2 b1 b2 (fun e => hne ?_)
    have q1:=congrArg (fun z : Id => zcb7 order site z.1) e
    have q2:=congrArg (fun z : Id => z.2) e
    simp only at q1 q2
    rw [hfrom i1.1 h1,hfrom i2.1 h2] at q1
    exact Prod.ext q1 q2
   ·obtain ⟨q1,q2⟩:=other i2 h2
    rw [q1] at hx2
    rw [q2]
    intro e
    rcases ownLocB i1 x1 h1 hx1 with h | h
    ·rw [e] at h; exact notOwnB i2 x2 h2 hx2 h
    ·have:=blkLt i2 x2 hx2; omega
  ·obtain ⟨q1,q2⟩:=other i1 h1
   rw [q1] at hx1
   rw [q2]
   by_cases h2 : i2.1 ∈ ids
   ·intro e
    rcases ownLocB i2 x2 h2 hx2 with h | h
    ·rw [← e] at h; exact notOwnB i1 x1 h1 hx1 h
    ·have:=blkLt i1 x1 hx1; omega
   ·obtain ⟨q3,q4⟩:=other i2 h2
    rw [q3] at hx2
    rw [q4]
    exact hI.bdisj i1 i2 x1 x2 hx1 hx2 hne
 ·by_cases hi : i.1 ∈ ids
  ·rcases ownLocB i x hi hx with h | h
   ·obtain ⟨i',x',h3,h4,h5⟩:=hown0B _ h
    rw [h5]
    exact hI.bown i' x' h4
   ·exact .inr (Nat.le_trans hI.kept.size h)
  ·obtain ⟨q1,q2⟩:=other i hi
   rw [q1] at hx
   rw [q2]
   exact hI.bown i x hx
 ·refine hI.kept.trans hkept (fun _ _ _ h => h) (fun b x hb h => ?_) (fun _ _ h => h) (fun b hb h => ?_) fun b hb hM => (hI.kept.blk b hb hM).1
  ·rcases ownB b x h with h | h
   ·exact h
   ·omega
  ·obtain ⟨i',x',h3,h4,h5⟩:=hown0B _ h
   rcases hI.bown i' x' h4 with h6 | h6
   ·rw [h5]; exact h6
   ·omega
 ·rcases hFnew b x v hv with h | h | h
  ·exact hI.Fnew _ _ _ h
  ·exact .inr (.inr (Nat.le_trans hI.kept.size h))
  ·exact .inr (ownB _ _ h)
theorem map_fst_zipIdx (axs : List AX) (bs : Nat → Bool) : ((axs.zipIdx.map fun p => (p.1,bs p.2)).map fun p => p.1) = axs:=by
 rw [List.map_map]
 have : ((fun p : AX × Bool => p.1) ∘ fun p : AX × Nat => (p.1,bs p.2)) = Prod.fst:=rfl
 rw [this,List.zipIdx_map_fst]
theorem callE_core {K : Orc} (hI : Inv B C) (hρ : C.ρ = flat T) (hG : GlobOK C.F) {f : FuncId} {args : List (AVal × Bool)} {vals : List Value} {sc : Bool} {site : Nat} {v : AVal} {us : List (RId × TObj)}
  (hrl : RepL C (args.map (·.1)) vals) (h : callE K site f args sc T = some (v,us)) :
  ∃ (Cc : Ctx) (vs : List AVal) (os : List TObj) (rv : AVal) (os' : List TObj),Cc.w = C.w ∧ Cc.ρ = flat (zub7 os) ∧ GlobOK Cc.F ∧ Inv (baseOf Cc) Cc ∧ RepL Cc vs vals ∧ K f vs os = some (rv,os') ∧
   ∀ e w',PostOK Cc os rv os' e w' → ∃ val,e = .returned val ∧ OwesT B C T v us val w':=by
 unfold callE at h
 split at h
 ·cases h
 ·rename_i vs us0 hvs
  obtain ⟨C1,k1,k3,k4,k5,k6⟩:=argsT_ok hI hρ hvs
  have hvr:=k6 _ hrl
  split at h
  ·cases h
  ·rename_i order hcol
   obtain ⟨r1,r2,r3,r4,_⟩:=zid7 (updT T us0) 64 _ [] order hcol (by simp) (by simp)
   split at h
   ·cases h
   ·rename_i os hos
    obtain ⟨g1,g2⟩:=zze7 hos
    obtain ⟨hext,hinv⟩:=callee_inv k4 k3 r1 r4 g1 g2
    have hargr : RepL (zra7 C1 order (os.map (TObj.tren (toPos order)))) (AVal.trenL (toPos order) vs) vals :=
     RepL.ext hext vs _ (fun i hi => r3 _ (List.mem_map.2 ⟨i,hi,rfl⟩)) hvr
    split at h
    ·cases h
    ·rename_i rv os' hK
     have hw1 : (zra7 C1 order (os.map (TObj.tren (toPos order)))).w = C.w:=k1
     refine ⟨zra7 C1 order (os.map (TObj.tren (toPos order))),_,_,rv,os',hw1,rfl,hG.mono k5.F,hinv,hargr,hK,fun e w' ⟨val,C',h1,h2,h3,h4,h5,h6⟩ => ⟨val,h1,?_⟩⟩
     split at h
     ·rename_i hsc
      simp only [Bool.and_eq_true,List.isEmpty_iff] at hsc
      have hord:=hsc.2
      subst hord
      split at h
      ·rename_i hh
       simp only [Bool.and_eq_true,List.isEmpty_iff] at hh
       simp only [Option.some.injEq,Prod.mk.injEq] at h
       obtain ⟨rfl,rfl⟩:=h
       have hk0:=h4.kept
       simp only [hw1] at hk0
       have hos : os = []:=List.eq_nil_of_length_eq_zero g1
       have hk:=hk0.kept (fun i _ hM => by
        obtain ⟨id,x,q1,_⟩:=hM
        subst hos
        simp [zra7,flat,zub7] at q1)
       have hempty : ∀ b x,¬ OwnSet (zra7 C1 [] (os.map (TObj.tren (toPos [])))) b x:=by
        rintro b x ⟨id,ob,q1,_⟩
        have : os = []:=List.eq_nil_of_length_eq_zero g1
        subst this
        simp [zra7,flat,zub7] at q1
       obtain ⟨i1,i2⟩:=hI.plain (C':={ C with w:=C'.w }) (hk.mono fun b x _ hx => hempty b x hx) (fun _ _ _ h => h) (fun _ _ _ h => .inl h) (fun b x v hv e => by simp only at hv; rw [e] at hv; cases hv) rfl rfl
       exact ⟨{ C with w:=C'.w },h2,hρ,i1,i2,scal_rep hh.2 h5⟩
      ·cases h
     ·split at h
      ·cases h
      ·rename_i hlen
       split at h
       ·cases h
       ·rename_i hfr
        simp only [Option.some.injEq,Prod.mk.injEq] at h
        obtain ⟨rfl,rfl⟩:=h
        have hfresh : ∀ j,j < os'.length - order.length → updT T us0 (site + 1,j) = none:=by
         intro j hj
         cases e : updT T us0 (site + 1,j) with
         | none => rfl
         | some ob =>
          exfalso
          apply hfr
          rw [List.any_eq_true]
          exact ⟨j,by simpa using hj,by simp [e]⟩
        obtain ⟨a1,a2,a3⟩:=after_inv (site:=site) k4 k3 r1 r4 g1 rfl hext g2 (by omega) hfresh h3 h4 (by simpa using h6)
        obtain ⟨n1,n2,n3,n4⟩:=ids_spec (site:=site) (n:=os'.length) r1 (by omega) (fun j hj hm => by
         obtain ⟨o',q,_⟩:=r4 _ hm
         rw [hfresh j hj] at q; cases q)
        refine ⟨_,?_,?_,a1,k5.trans a2,?_⟩
        ·exact h2
        ·rw [zrb7]
         simp only [afterCtx]
         congr 1
         funext i
         rw [updT_zip n1 (by simp)]
        ·refine RepA.ext a3 rv val (fun i hi => ?_) h5
         obtain ⟨ob,hob⟩:=RepA.live rv val h5 i hi
         rw [h3] at hob
         simp only [flat,zub7] at hob
         split at hob
         ·rename_i o' he
          split at he
          ·rename_i h0
           exact ⟨h0,(List.getElem?_eq_some_iff.1 he).1⟩
          ·cases he
         ·cases hob
theorem callE_ok {K : Orc} (hS : zbe7 P K) (hI : Inv B C) (hρ : C.ρ = flat T) (hG : GlobOK C.F) {f : FuncId} {args : List (AVal × Bool)} {vals : Array Value} {sc : Bool} {site : Nat} {v : AVal} {us : List (RId × TObj)}
  (hen : f = YID → zkb7 P f = true) (hrun : zkb7 P f = true → (execOp a.eval o).run P C.w = .ok (.enter f vals) C.w) (hrl : RepL C (args.map (·.1)) vals.toList) (h : callE K site f args sc T = some (v,us)) : Does P o a C.w (OwesT B C T v us):=by
 obtain ⟨Cc,vs,os,rv,os',c1,c2,c3,c4,c5,c6,c7⟩:=callE_core hI hρ hG hrl h
 rcases hS _ _ _ _ _ c6 with ⟨_,he,hc⟩ | ⟨he,he',_⟩
 ·refine .inr (.inr (.inl ⟨f,_,hrun he,?_⟩))
  have:=hc Cc vals c2 c3 c4 c5
  rw [c1] at this
  exact this.mono c7
 ·rw [hen he] at he'; cases he'
theorem yieldE_ok {K : Orc} (hS : zbe7 P K) (hI : Inv B C) (hρ : C.ρ = flat T) (hG : GlobOK C.F) {args : List (AVal × Bool)} {vals : Array Value} {l : Nat} {sc : Bool} {site : Nat} {v : AVal} {us : List (RId × TObj)}
  (hrun : (execOp a.eval o).run P C.w = (Instr.yield l vals).run P C.w) (hrl : RepL C (args.map (·.1)) (vals.push (.func (.yield l) #[] #[])).toList) (h : callE K site YID args sc T = some (v,us)) : Does P o a C.w (OwesT B C T v us):=by
 obtain ⟨Cc,vs,os,rv,os',c1,c2,c3,c4,c5,c6,c7⟩:=callE_core hI hρ hG hrl h
 rcases hS _ _ _ _ _ c6 with ⟨he,_⟩ | ⟨_,_,hy⟩
 ·exact absurd rfl he
 ·obtain ⟨f,tmps,asg,bd,q1,q2⟩:=hy Cc vals l c2 c3 c4 c5
  rw [c1] at q1 q2
  exact .inr (.inr (.inr ⟨l,f,tmps,asg,bd,by rw [hrun,q1],q2.mono c7⟩))
theorem run_enter {f : FuncId} {args : Array Value} (hen : zkb7 P f = true) (w : World) : (callFunc f args).run P w = .ok (.enter f args) w:=by
 unfold zkb7 at hen
 cases hfn : P.funcs[f]? with
 | none => simp [hfn] at hen
 | some fn =>
  rw [hfn] at hen
  simp only [bne_iff_ne,Bool.and_eq_true,ne_eq] at hen
  have hb : fn.body.isNone = false:=by cases hb : fn.body <;> simp_all
  have hname : (fn.name == "runtime.NumGoroutine") = false:=by simpa using hen.1
  simp only [callFunc,Sem.run_bind,run_program,hfn,hname,hb,Bool.false_eq_true,if_false,Sem.run_pure,Result.andThen_ok]
theorem cOp_call {m : Mk} {f : FuncId} {args : List (AX × Bool)} {sc : Bool} (hc : cOp P m o = some (.call f args sc)) :
  ∃ c axs,o.op = .call c ∧ c.callee = .value (.func f) ∧ cXs c.args = some axs ∧ args.map (·.1) = axs ∧ zkb7 P f = true:=by
 unfold cOp at hc
 split at hc
 all_goals (try (repeat' split at hc)) <;> (try (simp at hc; done))
 all_goals (try (obtain ⟨z,hz,he⟩:=zga7 hc; simp at he; done))
 rename_i _ c hop _ _ f' axs h1 h2 _ fn _ _ hen
 simp only [Option.some.injEq,AK.call.injEq] at hc
 obtain ⟨rfl,rfl,rfl⟩:=hc
 exact ⟨c,axs,hop,h1,h2,map_fst_zipIdx axs _,hen⟩
theorem cOp_callV {m : Mk} {ax : AX} {args : List (AX × Bool)} {sc : Bool} (hc : cOp P m o = some (.callV ax args sc)) :
  ∃ c x axs,o.op = .call c ∧ c.callee = .value x ∧ cX x = some ax ∧ cXs c.args = some axs ∧ args.map (·.1) = axs:=by
 unfold cOp at hc
 split at hc
 all_goals (try (repeat' split at hc)) <;> (try (simp at hc; done))
 all_goals (try (obtain ⟨z,hz,he⟩:=zga7 hc; simp at he; done))
 rename_i _ c hop _ _ x axs _ h1 h2
 obtain ⟨z,hz,he⟩:=zga7 hc
 simp only [AK.callV.injEq] at he
 obtain ⟨rfl,rfl,rfl⟩:=he
 exact ⟨c,x,axs,hop,h1,hz,h2,map_fst_zipIdx axs _⟩
theorem op_all {K : Orc} (hS : zbe7 P K) (hI : Inv B C) (hρ : C.ρ = flat T) (hE : RepE C g a) {m : Mk} {k : AK} {site : Nat} {v : AVal} {us : List (RId × TObj)} (hc : cOp P m o = some k) (h : opT K site k g T = some (v,us)) : Does P o a C.w (OwesT B C T v us):=by
 by_cases hk : ∃ f args sc,k = .call f args sc
 ·obtain ⟨f,args,sc,rfl⟩:=hk
  obtain ⟨c,axs,h1,h2,h3,h4,h5⟩:=cOp_call hc
  refine callE_ok (f:=f) (vals:=c.args.map a.eval) hS hI hρ hE.glob (fun _ => h5) (fun _ => ?_) ?_ h
  ·simp only [execOp,h1,resolve,h2,Act.eval,Sem.run_bind,Deferred.ofValue,Sem.run_pure,Result.andThen_ok,invoke,Array.append_empty,Array.empty_append,run_enter h5]
  ·have e : ((args.map fun p => (evX g p.1,p.2)).map (·.1)) = axs.map (evX g):=by
    rw [← h4,List.map_map,List.map_map]; rfl
   rw [e]
   have:=cXs_rep (C:=C) hE h3
   simpa using this
 ·by_cases hk2 : ∃ x args sc,k = .callV x args sc
  ·obtain ⟨x,args,sc,rfl⟩:=hk2
   obtain ⟨c,xo,axs,h1,h2,h3,h4,h5⟩:=cOp_callV hc
   have e : ((args.map fun p => (evX g p.1,p.2)).map (·.1)) = axs.map (evX g):=by
    rw [← h5,List.map_map,List.map_map]; rfl
   have hargs:=cXs_rep (C:=C) hE h4
   have hx:=zia7 hE h3
   simp only [opT] at h
   split at h
   ·rename_i f caps hf
    rw [hf] at hx
    simp only [RepA] at hx
    obtain ⟨cs,hx1,hx2⟩:=hx
    have e2 : ((caps.map fun v => (v,true)).map (·.1)) = caps:=by
     rw [List.map_map]; exact List.map_id _
    by_cases hbig : BIGF ≤ f
    ·rw [if_pos hbig] at h hx1
     by_cases hne : f - BIGF = YID
     ·rw [if_pos hne] at h; cases h
     ·rw [if_neg hne] at h
      refine callE_ok (f:=f - BIGF) (vals:=cs ++ c.args.map a.eval) hS hI hρ hE.glob (fun e => absurd e hne) (fun henf => ?_) ?_ h
      ·simp only [execOp,h1,resolve,h2,hx1,Sem.run_bind,Deferred.ofValue,Sem.run_pure,Result.andThen_ok,invoke,Array.append_empty,run_enter henf]
      ·rw [List.map_append,e,e2,Array.toList_append]
       exact RepL.append hx2 (by simpa using hargs)
    ·rw [if_neg hbig] at h hx1
     by_cases hne : f = YID
     ·rw [if_pos hne] at h; cases h
     ·rw [if_neg hne] at h
      refine callE_ok (f:=f) (vals:=c.args.map a.eval ++ cs) hS hI hρ hE.glob (fun e => absurd e hne) (fun henf => ?_) ?_ h
      ·simp only [execOp,h1,resolve,h2,hx1,Sem.run_bind,Deferred.ofValue,Sem.run_pure,Result.andThen_ok,invoke,Array.empty_append,run_enter henf]
      ·rw [List.map_append,e,e2,Array.toList_append]
       exact RepL.append (by simpa using hargs) hx2
   ·rename_i id hf
    rw [hf] at hx
    have hxr:=hx
    simp only [RepA,if_true] at hx
    obtain ⟨l,hx1,hx2⟩:=hx
    refine yieldE_ok (l:=l) (vals:=c.args.map a.eval) hS hI hρ hE.glob ?_ ?_ h
    ·simp only [execOp,h1,resolve,h2,hx2,Sem.run_bind,Deferred.ofValue,Sem.run_pure,Result.andThen_ok,invoke,Array.empty_append]
    ·rw [List.map_append,e,Array.toList_push]
     refine RepL.append (by simpa using hargs) ?_
     simp only [List.map_cons,List.map_nil,RepL]
     rw [hx2] at hxr
     exact ⟨_,_,rfl,hxr,rfl⟩
   ·cases h
  ·exact opT_plain hI hρ hE ⟨fun f args sc e => hk ⟨f,args,sc,e⟩,fun f args sc e => hk2 ⟨f,args,sc,e⟩⟩ hc h
end
end Go.Am

namespace Go.Am
variable [Glob]
section
variable {g g' : Nat → AVal} {ρ ρ' : Look}
theorem zba7 : ∀ {x : AX},(∀ t ∈ x.slots,g' t = g t) → evX g' x = evX g x
 | .t n,h => h n (by simp [AX.slots])
 | .c v,_ => rfl
theorem evXs_congr : ∀ {xs : List AX},(∀ t ∈ AX.slotsL xs,g' t = g t) → xs.map (evX g') = xs.map (evX g)
 | [],_ => rfl
 | x :: r,h => by
  simp only [AX.slotsL,List.mem_append,or_imp,forall_and] at h
  rw [List.map_cons,List.map_cons,zba7 h.1,evXs_congr h.2]
theorem pairs_congr {args : List (AX × Bool)} (h : ∀ t ∈ AX.slotsL (args.map (·.1)),g' t = g t) : (args.map fun p => (evX g' p.1,p.2)) = (args.map fun p => (evX g p.1,p.2)):=by
 induction args with
 | nil => rfl
 | cons p r ih =>
  simp only [List.map_cons,AX.slotsL,List.mem_append,or_imp,forall_and] at h
  rw [List.map_cons,List.map_cons,ih h.2,zba7 h.1]
theorem parts_congr {ps : List (Nat × Nat × AX)} (h : ∀ t ∈ AX.slotsL (ps.map fun p => p.2.2),g' t = g t) : (ps.map fun p => (p.1,p.2.1,evX g' p.2.2)) = (ps.map fun p => (p.1,p.2.1,evX g p.2.2)):=by
 induction ps with
 | nil => rfl
 | cons p r ih =>
  simp only [List.map_cons,AX.slotsL,List.mem_append,or_imp,forall_and] at h
  rw [List.map_cons,List.map_cons,ih h.2,zba7 h.1]
theorem opE_slots (site : Nat) {k : AK} (ρ : Look) (h : ∀ t ∈ k.slots,g' t = g t) : opE site k g' ρ = opE site k g ρ:=by
 cases k with
 | mv x => simp only [opE,zba7 h]
 | mvNil md sz => rfl
 | pick c a b =>
  simp only [AK.slots,List.mem_append,or_imp,forall_and] at h
  simp only [opE,zba7 h.1.1,zba7 h.1.2,zba7 h.2]
 | nilChk x => simp only [opE,zba7 h]
 | bin bk op x y =>
  simp only [AK.slots,List.mem_append,or_imp,forall_and] at h
  simp only [opE,zba7 h.1,zba7 h.2]
 | un op x => simp only [opE,zba7 h]
 | cvt k x => simp only [opE,zba7 h]
 | b2s x => simp only [opE,zba7 h]
 | fAddr off x => simp only [opE,zba7 h]
 | fld off n agg x => simp only [opE,zba7 h]
 | iAddr sz x i =>
  simp only [AK.slots,List.mem_append,or_imp,forall_and] at h
  simp only [opE,zba7 h.1,zba7 h.2]
 | iAddrA n sz x i =>
  simp only [AK.slots,List.mem_append,or_imp,forall_and] at h
  simp only [opE,zba7 h.1,zba7 h.2]
 | idx n sz agg x i =>
  simp only [AK.slots,List.mem_append,or_imp,forall_and] at h
  simp only [opE,zba7 h.1,zba7 h.2]
 | idxS x i =>
  simp only [AK.slots,List.mem_append,or_imp,forall_and] at h
  simp only [opE,zba7 h.1,zba7 h.2]
 | ext i x => simp only [opE,zba7 h]
 | len str x => simp only [opE,zba7 h]
 | mm isMax x r =>
  simp only [AK.slots,List.mem_append,or_imp,forall_and] at h
  simp only [opE,zba7 h.1,evXs_congr h.2]
 | bld zero parts => simp only [opE,parts_congr h]
 | bldS md sz xs => simp only [opE,evXs_congr h]
 | box n x => simp only [opE,zba7 h]
 | alc zero => rfl
 | ld n agg a => simp only [opE,zba7 h]
 | st mv n a v =>
  simp only [AK.slots,List.mem_append,or_imp,forall_and] at h
  simp only [opE,zba7 h.1,zba7 h.2]
 | mk md sz bytes zero l c =>
  simp only [AK.slots,List.mem_append,or_imp,forall_and] at h
  simp only [opE,zba7 h.1,zba7 h.2]
 | slc str sz x lo hi =>
  simp only [AK.slots,List.mem_append,or_imp,forall_and] at h
  obtain ⟨⟨h1,h2⟩,h3⟩:=h
  cases lo with
  | none =>
   cases hi with
   | none => simp only [opE,zba7 h1]
   | some y =>
    have h3' : ∀ t ∈ y.slots,g' t = g t:=by simpa [AX.slotsL] using h3
    simp only [opE,zba7 h1,zba7 h3']
  | some x' =>
   have h2' : ∀ t ∈ x'.slots,g' t = g t:=by simpa [AX.slotsL] using h2
   cases hi with
   | none => simp only [opE,zba7 h1,zba7 h2']
   | some y =>
    have h3' : ∀ t ∈ y.slots,g' t = g t:=by simpa [AX.slotsL] using h3
    simp only [opE,zba7 h1,zba7 h2',zba7 h3']
 | app md sz bytes x y =>
  simp only [AK.slots,List.mem_append,or_imp,forall_and] at h
  simp only [opE,zba7 h.1,zba7 h.2]
 | cpy sz x y =>
  simp only [AK.slots,List.mem_append,or_imp,forall_and] at h
  simp only [opE,zba7 h.1,zba7 h.2]
 | clr zero x => simp only [opE,zba7 h]
 | mkf f caps => simp only [opE,evXs_congr h]
 | slc0 x l h' m =>
  simp only [AK.slots,List.mem_append,or_imp,forall_and] at h
  simp only [opE,zba7 h.1.1.1,zba7 h.1.1.2,zba7 h.1.2,zba7 h.2]
 | slc3 sz x l h' m =>
  simp only [AK.slots,List.mem_append,or_imp,forall_and] at h
  simp only [opE,zba7 h.1.1.1,zba7 h.1.1.2,zba7 h.1.2,zba7 h.2]
 | capK x => simp only [opE,zba7 h]
 | appZ sz bytes zero x y =>
  simp only [AK.slots,List.mem_append,or_imp,forall_and] at h
  simp only [opE,zba7 h.1,zba7 h.2]
 | dead => rfl
 | mkMap => rfl
 | lkp ag sh zero ok m k =>
  simp only [AK.slots,List.mem_append,or_imp,forall_and] at h
  simp only [opE,zba7 h.1,zba7 h.2]
 | mup ag sh m k v =>
  simp only [AK.slots,List.mem_append,or_imp,forall_and] at h
  simp only [opE,zba7 h.1.1,zba7 h.1.2,zba7 h.2]
 | lenM m => simp only [opE,zba7 h]
 | call f args scalar => rfl
 | callV x args scalar => rfl
theorem elemsOf_congr {sz : Nat} {v : AVal} (h : ∀ i ∈ v.ids,ρ' i = ρ i) : elemsOf ρ' sz v = elemsOf ρ sz v:=by
 cases v with
 | rsl id ver sz' off len => simp only [elemsOf,h id (by simp [AVal.ids])]
 | dat d => cases d <;> rfl
 | _ => rfl
theorem rsrcOf_congr {sz : Nat} {v : AVal} (h : ∀ i ∈ v.ids,ρ' i = ρ i) : rsrcOf ρ' sz v = rsrcOf ρ sz v:=by
 cases v with
 | rsl id ver sz' off len => simp only [rsrcOf,h id (by simp [AVal.ids])]
 | _ => rfl
theorem srcOf_congr {sz : Nat} {v : AVal} (h : ∀ i ∈ v.ids,ρ' i = ρ i) : srcOf ρ' sz v = srcOf ρ sz v:=by
 cases v with
 | dat d => cases d <;> rfl
 | rsl id ver sz' off len =>
  simp only [srcOf]
  exact elemsOf_congr h
 | _ => rfl
theorem zre7 {v : AVal} (h : ∀ i ∈ v.ids,ρ' i = ρ i) : zpb7 ρ' v = zpb7 ρ v:=by
 cases v with
 | rsl id ver sz' off len => simp only [zpb7,h id (by simp [AVal.ids])]
 | _ => rfl
theorem zef7 : ∀ {l : List AVal},(∀ i ∈ AVal.idsL l,ρ' i = ρ i) → zwa7 ρ' l = zwa7 ρ l
 | [],_ => rfl
 | v :: r,h => by
  simp only [AVal.idsL,List.mem_append,or_imp,forall_and] at h
  simp only [zwa7,zre7 h.1,zef7 h.2]
theorem dec_congr {v : AVal} (h : ∀ i ∈ v.ids,ρ' i = ρ i) : dec ρ' v = dec ρ v:=by
 cases v with
 | agg l => simp only [dec,zef7 (l:=l) h]
 | rsl id ver sz off len => simp only [dec]; exact zre7 h
 | _ => rfl
theorem zmf7 : ∀ {l : List AVal},(∀ i ∈ AVal.idsL l,ρ' i = ρ i) → znf7 ρ' l = znf7 ρ l
 | [],_ => rfl
 | v :: r,h => by
  simp only [AVal.idsL,List.mem_append,or_imp,forall_and] at h
  simp only [znf7,dec_congr h.1,zmf7 h.2]
theorem decLeaf_fs {v : AVal} {d : Dat} {fs : List Id} (h : zpb7 ρ v = some (d,fs)) : ∀ i ∈ fs,i ∈ v.ids:=by
 cases v with
 | rsl id ver sz off len =>
  simp only [zpb7] at h
  split at h
  ·split at h
   ·simp only [Option.some.injEq,Prod.mk.injEq] at h
    obtain ⟨rfl,rfl⟩:=h
    intro i hi
    simpa [AVal.ids] using hi
   ·cases h
  ·cases h
 | dat d' => simp [zpb7] at h; simp [h.2]
 | nils => simp [zpb7] at h; simp [h.2]
 | emp t => simp [zpb7] at h; simp [h.2]
 | cap0 => simp [zpb7] at h; simp [h.2]
 | fsl l => simp [zpb7] at h; simp [h.2]
 | _ => simp [zpb7] at h
theorem decLeaves_fs : ∀ {l : List AVal} {ds : List Dat} {fs : List Id},zwa7 ρ l = some (ds,fs) → ∀ i ∈ fs,i ∈ AVal.idsL l
 | [],ds,fs,h => by simp [zwa7] at h; simp [h.2]
 | v :: r,ds,fs,h => by
  simp only [zwa7] at h
  split at h
  ·rename_i d f ds' fs' h1 h2
   split at h
   ·cases h
   ·simp only [Option.some.injEq,Prod.mk.injEq] at h
    obtain ⟨rfl,rfl⟩:=h
    intro i hi
    simp only [List.mem_append,AVal.idsL] at hi ⊢
    exact orMap hi (decLeaf_fs h1 i) (decLeaves_fs h2 i)
  ·cases h
theorem dec_fs {v : AVal} {d : Dat} {fs : List Id} (h : dec ρ v = some (d,fs)) : ∀ i ∈ fs,i ∈ v.ids:=by
 cases v with
 | agg l =>
  simp only [dec] at h
  split at h
  ·rename_i ds fs' h1
   simp only [Option.some.injEq,Prod.mk.injEq] at h
   obtain ⟨rfl,rfl⟩:=h
   exact decLeaves_fs h1
  ·cases h
 | _ => simp only [dec] at h; exact decLeaf_fs h
theorem decAll_fs : ∀ {l : List AVal} {ds : List Dat} {fs : List Id},znf7 ρ l = some (ds,fs) → ∀ i ∈ fs,i ∈ AVal.idsL l
 | [],ds,fs,h => by simp [znf7] at h; simp [h.2]
 | v :: r,ds,fs,h => by
  simp only [znf7] at h
  split at h
  ·rename_i d f ds' fs' h1 h2
   simp only [Option.some.injEq,Prod.mk.injEq] at h
   obtain ⟨rfl,rfl⟩:=h
   intro i hi
   simp only [List.mem_append,AVal.idsL] at hi ⊢
   exact orMap hi (dec_fs h1 i) (decAll_fs h2 i)
  ·cases h
theorem zaf7 : ∀ {fs : List Id},(∀ i ∈ fs,ρ' i = ρ i) → frz ρ' fs = frz ρ fs
 | [],_ => rfl
 | id :: r,h => by
  simp only [frz,h id (by simp),zaf7 (fs:=r) (fun i hi => h i (by simp [hi]))]
theorem loadE_congr {n : Nat} {agg : Bool} {v : AVal} (h : ∀ i ∈ v.ids,ρ' i = ρ i) : loadE ρ' n agg v = loadE ρ n agg v:=by
 cases v with
 | ref id off => simp only [loadE,h id (by simp [AVal.ids])]
 | eref id ver i off => simp only [loadE,h id (by simp [AVal.ids])]
 | _ => rfl
theorem storeE_congr {n : Nat} {a v : AVal} (h : ∀ i ∈ a.ids,ρ' i = ρ i) (h' : ∀ i ∈ v.ids,ρ' i = ρ i) : storeE ρ' n a v = storeE ρ n a v:=by
 cases a with
 | ref id off => simp only [storeE,h id (by simp [AVal.ids])]
 | eref id ver i off =>
  simp only [storeE,h id (by simp [AVal.ids]),dec_congr h']
  cases hd : dec ρ v with
  | none => rfl
  | some p =>
   obtain ⟨d,fs⟩:=p
   have e:=zaf7 (fs:=fs) (fun i hi => h' i (dec_fs hd i hi))
   cases ρ id with
   | none => rfl
   | some o =>
    cases o with
    | box cs => rfl
    | rarr sz ver' es => rfl
    | blk x => rfl
    | arr sz ver' fz es =>
     cases fz with
     | true => rfl
     | false =>
      cases he : es[i]? with
      | none => simp only [he]
      | some x => simp only [he,e]
 | _ => rfl
theorem lkpE_congr {ag : Bool} {sh : List Sh} {zero : List AVal} {ok : Bool} {m k : AVal} (h : ∀ i ∈ m.ids,ρ' i = ρ i) : lkpE ρ' ag sh zero ok m k = lkpE ρ ag sh zero ok m k:=by
 cases m with
 | bref y id =>
  cases y with
  | true => rfl
  | false => cases hk : keyE ag sh k <;> cases hz : zrc7 zero <;> simp only [lkpE,hk,hz,h id (by simp [AVal.ids])]
 | _ => rfl
theorem lenME_congr {m : AVal} (h : ∀ i ∈ m.ids,ρ' i = ρ i) : lenME ρ' m = lenME ρ m:=by
 cases m with
 | bref y id => cases y <;> simp only [lenME,h id (by simp [AVal.ids])]
 | _ => rfl
theorem mupE_congr {ag : Bool} {sh : List Sh} {m k v : AVal} (h : ∀ i ∈ m.ids,ρ' i = ρ i) (h' : ∀ i ∈ v.ids,ρ' i = ρ i) : mupE ρ' ag sh m k v = mupE ρ ag sh m k v:=by
 cases m with
 | bref y id =>
  cases y with
  | true => rfl
  | false =>
   cases hk : keyE ag sh k with
   | none => simp only [mupE,hk]
   | some kd =>
    cases hd : dec ρ v with
    | none => simp only [mupE,hk,dec_congr h',hd]
    | some p =>
     obtain ⟨d,fs⟩:=p
     have e:=zaf7 (fs:=fs) (fun i hi => h' i (dec_fs hd i hi))
     simp only [mupE,hk,dec_congr h',hd,h id (by simp [AVal.ids]),e]
 | _ => rfl
theorem zna7 {i : Id} (h : ρ' i = ρ i) : zhb7 ρ' i = zhb7 ρ i:=by simp only [zhb7,h]
end
end Go.Am

namespace Go.Am
variable [Glob]
section
variable {g : Nat → AVal} {ρ ρ' : Look}
theorem opE_objs (site : Nat) {k : AK} {out : Out} (h : opE site k g ρ = some out) (hρ : ∀ i,i ∈ touch k g ∨ i ∈ out.2.map (·.1) → ρ' i = ρ i) : opE site k g ρ' = some out:=by
 cases k with
 | mv x => exact h
 | pick c a b => exact h
 | nilChk x => exact h
 | bin bk op x y => exact h
 | un op x => exact h
 | cvt k x => exact h
 | fAddr off x => exact h
 | fld off n agg x => exact h
 | iAddr sz x i => exact h
 | iAddrA n sz x i => exact h
 | idx n sz agg x i => exact h
 | idxS x i => exact h
 | ext i x => exact h
 | len str x => exact h
 | mm isMax x r => exact h
 | bld zero parts => exact h
 | slc str sz x lo hi => exact h
 | mvNil md sz =>
  simp only [opE] at h ⊢
  split at h
  ·cases h
  ·rename_i nv hnv
   have key : (nid site) ∈ out.2.map (·.1):=by
    cases md with
    | o =>
     simp only at h
     split at h
     ·cases h; simp
     ·cases h
    | r =>
     simp only at h
     split at h
     ·cases h; simp
     ·cases h
    | d => cases h
    | f => cases h
   rw [zna7 (hρ _ (.inr key)),hnv]
   exact h
 | b2s x =>
  simp only [opE] at h ⊢
  rw [elemsOf_congr fun i hi => hρ i (.inl hi)]
  exact h
 | bldS md sz xs =>
  simp only [opE] at h ⊢
  have ht : ∀ i ∈ AVal.idsL (xs.map (evX g)),ρ' i = ρ i:=fun i hi => hρ i (.inl hi)
  cases md with
  | r => exact h
  | d =>
   simp only at h ⊢
   rw [zmf7 ht]
   split at h
   ·rename_i ds fs hd
    simp only [zaf7 (fs:=fs) fun i hi => ht i (decAll_fs hd i hi)]
    exact h
   ·cases h
  | o =>
   simp only at h ⊢
   rw [zmf7 ht]
   split at h
   ·rename_i ds fs hd
    split at h
    ·rename_i hw
     rw [if_pos hw]
     split at h
     ·rename_i nv hnv
      split at h
      ·rename_i hc
       have key : ρ' (nid site) = ρ (nid site):=by
        refine hρ _ (.inr ?_)
        simp only [Option.some.injEq] at h
        subst h
        simp
       rw [zna7 key,hnv]
       simp only [zaf7 (fs:=fs) fun i hi => ht i (decAll_fs hd i hi)]
       rw [if_pos hc]
       exact h
      ·cases h
     ·cases h
    ·cases h
   ·cases h
  | f =>
   simp only at h ⊢
   split at h
   ·rename_i h0
    rw [if_pos h0]
    exact h
   ·rename_i h0
    rw [if_neg h0]
    split at h
    ·rename_i nv hnv
     split at h
     ·rename_i hc
      have key : ρ' (nid site) = ρ (nid site):=by
       refine hρ _ (.inr ?_)
       simp only [Option.some.injEq] at h
       subst h
       simp
      rw [zna7 key,hnv]
      simp only
      rw [if_pos hc]
      exact h
     ·cases h
    ·cases h
 | box n x =>
  simp only [opE] at h ⊢
  split at h
  ·cases h
  ·rename_i hn
   split at h
   ·rename_i hc
    have key : ρ' (nid site) = ρ (nid site):=by
     refine hρ _ (.inr ?_)
     simp only [Option.some.injEq] at h
     subst h
     simp
    rw [key,hn]
    simp only
    rw [if_pos hc]
    exact h
   ·cases h
 | alc zero =>
  simp only [opE] at h ⊢
  split at h
  ·cases h
  ·rename_i hn
   have key : ρ' (nid site) = ρ (nid site):=by
    refine hρ _ (.inr ?_)
    simp only [Option.some.injEq] at h
    subst h
    simp
   rw [key,hn]
   exact h
 | mkMap =>
  simp only [opE] at h ⊢
  split at h
  ·cases h
  ·rename_i hn
   have key : ρ' (nid site) = ρ (nid site):=by
    refine hρ _ (.inr ?_)
    simp only [Option.some.injEq] at h
    subst h
    simp
   rw [key,hn]
   exact h
 | lkp ag sh zero ok m k =>
  simp only [opE] at h ⊢
  rw [lkpE_congr fun i hi => hρ i (.inl hi)]
  exact h
 | mup ag sh m k v =>
  simp only [opE] at h ⊢
  rw [mupE_congr (fun i hi => hρ i (.inl (List.mem_append.2 (.inl hi)))) (fun i hi => hρ i (.inl (List.mem_append.2 (.inr hi))))]
  exact h
 | lenM m =>
  simp only [opE] at h ⊢
  rw [lenME_congr fun i hi => hρ i (.inl hi)]
  exact h
 | ld n agg a =>
  simp only [opE] at h ⊢
  rw [loadE_congr fun i hi => hρ i (.inl hi)]
  exact h
 | st mv n a v =>
  simp only [opE] at h ⊢
  rw [storeE_congr (fun i hi => hρ i (.inl (List.mem_append.2 (.inl hi)))) (fun i hi => hρ i (.inl (List.mem_append.2 (.inr hi))))]
  exact h
 | mk md sz bytes zero l c =>
  simp only [opE] at h ⊢
  split at h
  ·rename_i l' c' hl hc
   split at h
   ·rename_i hb
    try simp only [hl,hc]
    rw [if_pos hb]
    cases md with
    | r =>
     simp only at h ⊢
     split at h
     ·rename_i nv hnv
      split at h
      ·rename_i hz
       have key : ρ' (nid site) = ρ (nid site):=by
        refine hρ _ (.inr ?_)
        simp only [Option.some.injEq] at h
        subst h
        simp
       simp only [zna7 key,hnv]
       rw [if_pos hz]
       exact h
      ·cases h
     ·cases h
    | d => exact h
    | o =>
     simp only at h ⊢
     split at h
     ·rename_i z hz
      try simp only [hz]
      split at h
      ·rename_i hw
       rw [if_pos hw]
       split at h
       ·cases h
       ·rename_i nv hnv
        have key : ρ' (nid site) = ρ (nid site):=by
         refine hρ _ (.inr ?_)
         simp only [Option.some.injEq] at h
         subst h
         simp
        simp only [zna7 key,hnv]
        exact h
      ·cases h
     ·cases h
    | f =>
     simp only at h ⊢
     split at h
     ·rename_i z hz
      try simp only [hz]
      split at h
      ·rename_i hw
       rw [if_pos hw]
       split at h
       ·cases h
       ·rename_i nv hnv
        have key : ρ' (nid site) = ρ (nid site):=by
         refine hρ _ (.inr ?_)
         simp only [Option.some.injEq] at h
         subst h
         simp
        simp only [zna7 key,hnv]
        exact h
      ·cases h
     ·cases h
   ·cases h
  ·cases h
 | app md sz bytes x y =>
  have hx : ∀ i ∈ (evX g x).ids,ρ' i = ρ i:=fun i hi => hρ i (.inl (List.mem_append.2 (.inl hi)))
  have hy : ∀ i ∈ (evX g y).ids,ρ' i = ρ i:=fun i hi => hρ i (.inl (List.mem_append.2 (.inr hi)))
  simp only [opE] at h ⊢
  rw [srcOf_congr hy,rsrcOf_congr hy]
  split at h
  ·rename_i id ver sz' off len hv
   try simp only [hv]
   rw [hx id (by simp [hv,AVal.ids])]
   exact h
  ·rename_i hv
   try simp only [hv]
   cases md with
   | r =>
    simp only at h ⊢
    split at h
    ·rename_i ds hw
     try simp only [hw]
     split at h
     ·rename_i hd
      rw [if_pos hd]
      exact h
     ·rename_i hd
      rw [if_neg hd]
      split at h
      ·rename_i nv hnv
       split at h
       ·rename_i hc
        have key : ρ' (nid site) = ρ (nid site):=by
         refine hρ _ (.inr ?_)
         simp only [Option.some.injEq] at h
         subst h
         simp
        simp only [zna7 key,hnv]
        rw [if_pos hc]
        exact h
       ·cases h
      ·cases h
    ·cases h
   | d =>
    simp only at h ⊢
    split at h
    ·rename_i ds hw
     try simp only [hw]
     split at h
     ·rename_i hd
      rw [if_pos hd]
      exact h
     ·rename_i hd
      rw [if_neg hd]
      split at h
      ·rename_i nv hnv
       split at h
       ·rename_i hc
        have key : ρ' (nid site) = ρ (nid site):=by
         refine hρ _ (.inr ?_)
         simp only [Option.some.injEq] at h
         subst h
         simp
        simp only [zna7 key,hnv]
        rw [if_pos hc]
        exact h
       ·cases h
      ·cases h
    ·cases h
   | o =>
    simp only at h ⊢
    split at h
    ·rename_i ds hw
     try simp only [hw]
     split at h
     ·rename_i hd
      rw [if_pos hd]
      exact h
     ·rename_i hd
      rw [if_neg hd]
      split at h
      ·rename_i nv hnv
       split at h
       ·rename_i hc
        have key : ρ' (nid site) = ρ (nid site):=by
         refine hρ _ (.inr ?_)
         simp only [Option.some.injEq] at h
         subst h
         simp
        simp only [zna7 key,hnv]
        rw [if_pos hc]
        exact h
       ·cases h
      ·cases h
    ·cases h
   | f =>
    simp only at h ⊢
    split at h
    ·rename_i ds hw
     try simp only [hw]
     split at h
     ·rename_i hd
      rw [if_pos hd]
      exact h
     ·rename_i hd
      rw [if_neg hd]
      split at h
      ·rename_i nv hnv
       split at h
       ·rename_i hc
        have key : ρ' (nid site) = ρ (nid site):=by
         refine hρ _ (.inr ?_)
         simp only [Option.some.injEq] at h
         subst h
         simp
        simp only [zna7 key,hnv]
        rw [if_pos hc]
        exact h
       ·cases h
      ·cases h
    ·cases h
  ·rename_i hv
   try simp only [hv]
   cases md with
   | r =>
    simp only at h ⊢
    split at h
    ·rename_i ds hw
     try simp only [hw]
     split at h
     ·rename_i hd
      rw [if_pos hd]
      exact h
     ·rename_i hd
      rw [if_neg hd]
      split at h
      ·rename_i nv hnv
       split at h
       ·rename_i hc
        have key : ρ' (nid site) = ρ (nid site):=by
         refine hρ _ (.inr ?_)
         simp only [Option.some.injEq] at h
         subst h
         simp
        simp only [zna7 key,hnv]
        rw [if_pos hc]
        exact h
       ·cases h
      ·cases h
    ·cases h
   | d =>
    simp only at h ⊢
    split at h
    ·rename_i ds hw
     try simp only [hw]
     split at h
     ·rename_i hd
      rw [if_pos hd]
      exact h
     ·rename_i hd
      rw [if_neg hd]
      split at h
      ·rename_i nv hnv
       split at h
       ·rename_i hc
        have key : ρ' (nid site) = ρ (nid site):=by
         refine hρ _ (.inr ?_)
         simp only [Option.some.injEq] at h
         subst h
         simp
        simp only [zna7 key,hnv]
        rw [if_pos hc]
        exact h
       ·cases h
      ·cases h
    ·cases h
   | o =>
    simp only at h ⊢
    split at h
    ·rename_i ds hw
     try simp only [hw]
     split at h
     ·rename_i hd
      rw [if_pos hd]
      exact h
     ·rename_i hd
      rw [if_neg hd]
      split at h
      ·rename_i nv hnv
       split at h
       ·rename_i hc
        have key : ρ' (nid site) = ρ (nid site):=by
         refine hρ _ (.inr ?_)
         simp only [Option.some.injEq] at h
         subst h
         simp
        simp only [zna7 key,hnv]
        rw [if_pos hc]
        exact h
       ·cases h
      ·cases h
    ·cases h
   | f =>
    simp only at h ⊢
    split at h
    ·rename_i ds hw
     try simp only [hw]
     split at h
     ·rename_i hd
      rw [if_pos hd]
      exact h
     ·rename_i hd
      rw [if_neg hd]
      split at h
      ·rename_i nv hnv
       split at h
       ·rename_i hc
        have key : ρ' (nid site) = ρ (nid site):=by
         refine hρ _ (.inr ?_)
         simp only [Option.some.injEq] at h
         subst h
         simp
        simp only [zna7 key,hnv]
        rw [if_pos hc]
        exact h
       ·cases h
      ·cases h
    ·cases h
  ·rename_i l hv
   try simp only [hv]
   split at h
   ·rename_i ds nv hw hnv
    split at h
    ·rename_i hc
     have key : ρ' (nid site) = ρ (nid site):=by
      refine hρ _ (.inr ?_)
      simp only [Option.some.injEq] at h
      subst h
      simp
     simp only [hw,zna7 key,hnv]
     rw [if_pos hc]
     exact h
    ·cases h
   ·cases h
  ·cases h
 | cpy sz x y =>
  have hx : ∀ i ∈ (evX g x).ids,ρ' i = ρ i:=fun i hi => hρ i (.inl (List.mem_append.2 (.inl hi)))
  have hy : ∀ i ∈ (evX g y).ids,ρ' i = ρ i:=fun i hi => hρ i (.inl (List.mem_append.2 (.inr hi)))
  simp only [opE] at h ⊢
  rw [srcOf_congr hy]
  split at h
  ·rename_i id ver sz' off len ds hv hs
   try simp only [hv,hs]
   rw [hx id (by simp [hv,AVal.ids])]
   exact h
  ·cases h
 | clr zero x =>
  have hx : ∀ i ∈ (evX g x).ids,ρ' i = ρ i:=fun i hi => hρ i (.inl hi)
  simp only [opE] at h ⊢
  split at h
  ·rename_i id ver sz off len z hv hz
   try simp only [hv,hz]
   rw [hx id (by simp [hv,AVal.ids])]
   exact h
  ·cases h
 | mkf f caps => exact h
 | slc0 x l h' m => exact h
 | capK x => exact h
 | appZ sz bytes zero x y =>
  simp only [opE] at h ⊢
  split at h
  ·rename_i hx
   try simp only [hx]
   split at h
   ·rename_i n z h1 h2
    try simp only [h1,h2]
    split at h
    ·rename_i hc
     rw [if_pos hc]
     split at h
     ·rename_i nv hnv
      have key : ρ' (nid site) = ρ (nid site):=by
       refine hρ _ (.inr ?_)
       simp only [Option.some.injEq] at h
       subst h
       simp
      rw [zna7 key,hnv]
      exact h
     ·cases h
    ·cases h
   ·cases h
  ·cases h
 | slc3 sz x l h' m =>
  have hx : ∀ i ∈ (evX g x).ids,ρ' i = ρ i:=fun i hi => hρ i (.inl hi)
  simp only [opE] at h ⊢
  split at h
  ·rename_i l1 h1 m1 e1 e2 e3
   try simp only [e1,e2,e3]
   rw [zre7 hx]
   split at h
   ·rename_i ds ids hd
    try simp only [hd]
    rw [zaf7 (fs:=ids) fun i hi => hx i (decLeaf_fs hd i hi)]
    exact h
   ·cases h
  ·cases h
 | dead => exact h
 | call f args scalar => exact h
 | callV x args scalar => exact h
theorem opE_quiet (site : Nat) {k : AK} {out : Out} (h : opE site k g ρ = some out) (hk : k.kind ≠ 2) : out.2 = []:=by
 obtain ⟨v,upd⟩:=out
 have mp : ∀ {α : Type} {x : Option α} {f : α → AVal},(x.map fun a => (f a,([] : List (Id × Obj)))) = some (v,upd) → upd = []:=by
  intro α x f hx
  cases x with
  | none => cases hx
  | some a => simp only [Option.map_some,Option.some.injEq,Prod.mk.injEq] at hx; exact hx.2.symm
 have sm : ∀ {u : AVal},some (u,([] : List (Id × Obj))) = some (v,upd) → upd = []:=by
  intro u hx
  simp only [Option.some.injEq,Prod.mk.injEq] at hx
  exact hx.2.symm
 cases k with
 | mv x => exact sm h
 | mvNil md sz => simp [AK.kind] at hk
 | pick c a b =>
  simp only [opE] at h
  split at h
  ·exact sm h
  ·cases h
 | nilChk x =>
  simp only [opE] at h
  split at h <;> first | exact sm h | cases h
 | bin bk op x y => exact mp h
 | un op x => exact mp h
 | cvt k x =>
  simp only [opE] at h
  split at h
  ·exact sm h
  ·cases h
 | b2s x =>
  simp only [opE] at h
  split at h
  ·split at h
   ·exact sm h
   ·cases h
  ·cases h
 | fAddr off x => exact mp h
 | fld off n agg x => exact mp h
 | iAddr sz x i =>
  simp only [opE] at h
  split at h
  ·exact mp h
  ·cases h
 | iAddrA n sz x i =>
  simp only [opE] at h
  split at h
  ·split at h
   ·exact mp h
   ·cases h
  ·cases h
 | idx n sz agg x i =>
  simp only [opE] at h
  split at h
  ·split at h
   ·exact mp h
   ·cases h
  ·cases h
 | idxS x i =>
  simp only [opE] at h
  split at h
  ·split at h
   ·exact mp h
   ·cases h
  ·cases h
 | ext i x =>
  simp only [opE] at h
  split at h
  ·exact mp h
  ·cases h
 | len str x => exact mp h
 | mm isMax x r => exact mp h
 | bld zero parts => exact mp h
 | bldS md sz xs =>
  simp only [AK.kind] at hk
  split at hk
  ·rename_i e
   subst e
   simp only [opE] at h
   split at h
   ·exact sm h
   ·cases h
  ·exact absurd rfl hk
 | box n x => simp [AK.kind] at hk
 | alc zero => simp [AK.kind] at hk
 | ld n agg a => exact mp h
 | st mv n a v => simp [AK.kind] at hk
 | mk md sz bytes zero l c =>
  simp only [AK.kind] at hk
  split at hk
  ·rename_i e
   subst e
   simp only [opE] at h
   split at h
   ·split at h
    ·split at h
     ·split at h
      ·exact sm h
      ·cases h
     ·cases h
    ·cases h
   ·cases h
  ·exact absurd rfl hk
 | slc str sz x lo hi =>
  simp only [opE] at h
  split at h
  ·exact mp h
  ·cases h
 | app md sz bytes x y => simp [AK.kind] at hk
 | cpy sz x y => simp [AK.kind] at hk
 | clr zero x => simp [AK.kind] at hk
 | mkf f caps => exact sm h
 | capK x => exact mp h
 | appZ sz bytes zero x y => simp [AK.kind] at hk
 | slc3 sz x l h' m => simp [AK.kind] at hk
 | slc0 x l h' m =>
  simp only [opE] at h
  split at h
  ·exact mp h
  ·cases h
 | dead => cases h
 | mkMap => simp [AK.kind] at hk
 | lkp ag sh zero ok m k => exact mp h
 | mup ag sh m k v => simp [AK.kind] at hk
 | lenM m => exact mp h
 | call f args scalar => simp [AK.kind] at hk
 | callV x args scalar => simp [AK.kind] at hk
theorem opE_blind (site : Nat) {k : AK} (hk : k.kind = 0) : opE site k g ρ' = opE site k g ρ:=by
 cases k <;> first | rfl | (simp [AK.kind] at hk; done) | skip
 ·rename_i md sz xs
  simp only [AK.kind] at hk
  split at hk
  ·rename_i e
   subst e
   rfl
  ·cases hk
 ·rename_i md sz bytes zero l c
  simp only [AK.kind] at hk
  split at hk
  ·rename_i e
   subst e
   rfl
  ·cases hk
end
end Go.Am
