/- Parts of the proofs of the statement, joined and made short: AmInsB AmInsC AmInsD. -/
import Derived.Test.YtmoibjjpfemgjaaGreatDoorP25
set_option linter.unusedVariables false
set_option linter.unusedSimpArgs false
set_option linter.unusedSectionVars false
namespace Go.Am
open Go.Proofs
variable [Glob]
def putL:Nat→List Value→Array Value→Array Value
 |_,[],c=>c
 |o,v::r,c=>putL (o+1) r (c.setIfInBounds o v)
theorem putL_get:∀(vs:List Value) (o:Nat) (c:Array Value) (k:Nat),(putL o vs c)[k]?=if o≤k∧k<o+vs.length∧k<c.size then vs[k-o]? else c[k]?
 |[],o,c,k=>by
  rw[if_neg (by simp;omega)];rfl
 |v::r,o,c,k=>by
  rw[putL,putL_get r (o+1),Array.size_setIfInBounds,Array.getElem?_setIfInBounds];by_cases h:o=k
  ·subst h;rw[if_neg (by omega),if_pos rfl];by_cases h2:o<c.size
   ·rw[if_pos h2,if_pos ⟨Nat.le_refl _,by simp,h2⟩];simp
   ·rw[if_neg h2,if_neg fun e=>h2 e.2.2];symm;simp;omega
  ·rw[if_neg h];by_cases h2:o+1≤k∧k<o+1+r.length∧k<c.size
   ·rw[if_pos h2,if_pos (by simp;omega),show k-o=(k-(o+1))+1 by omega,List.getElem?_cons_succ]
   ·rw[if_neg h2,if_neg (by simp;omega)]
theorem putL_size:∀(vs:List Value) (o:Nat) (c:Array Value),(putL o vs c).size=c.size
 |[],_,_=>rfl
 |v::r,o,c=>by rw[putL,putL_size,Array.size_setIfInBounds]
def onC (f:Array Value→Array Value):Go.Obj→Go.Obj
 |.cells c t fr=>.cells (f c) t fr
 |o=>o
theorem zof7 (b:Nat):∀(vs:List Value) (o:Nat) (w:World),w.setCells b o vs={ w with heap:=w.heap.modify b (onC (putL o vs)) }
 |[],o,w=>by
  have:(onC (putL o []))=id:=by
   funext x;cases x<;>rfl
  rw[this]
  have h:w.heap.modify b id=w.heap:=by
   apply Array.ext_getElem?;intro k;rw[Array.getElem?_modify];split
   ·cases w.heap[k]?<;>rfl
   ·rfl
  rw[h];rfl
 |v::r,o,w=>by
  rw[World.setCells,zof7 b r];unfold World.setCell;simp only
  congr 1
  apply Array.ext_getElem?;intro k;simp only[Array.getElem?_modify];split
  ·cases w.heap[k]? with
   |none=>rfl
   |some x=>cases x<;>rfl
  ·rfl
theorem setCells_two (w:World) (b o:Nat) (vs ds:List Value):(w.setCells b (o+vs.length) ds).setCells b o vs=w.setCells b o (vs++ds):=by
 simp only[zof7]
 congr 1
 apply Array.ext_getElem?;intro k;simp only[Array.getElem?_modify];split
 ·cases w.heap[k]? with
  |none=>rfl
  |some x=>
   cases x with
   |cells c t fr=>
    simp only[Option.map_some,onC]
    congr 2
    apply Array.ext_getElem?;intro j;simp only[putL_get,putL_size,List.length_append];by_cases h1:j<c.size
    ·by_cases h2:o≤j∧j<o+vs.length
     ·rw[if_pos ⟨h2.1,h2.2,h1⟩,if_pos ⟨h2.1,by omega,h1⟩,List.getElem?_append_left (by omega)]
     ·rw[if_neg (by omega)];by_cases h3:o+vs.length≤j∧j<o+vs.length+ds.length
      ·rw[if_pos ⟨h3.1,h3.2,h1⟩,if_pos ⟨by omega,by omega,h1⟩,List.getElem?_append_right (by omega)]
       congr 1;omega
      ·rw[if_neg (by omega),if_neg (by omega)]
    ·rw[if_neg (by omega),if_neg (by omega),if_neg (by omega)]
   |_=>rfl
 ·rfl
theorem setCells_new (w:World) (A:Array Value) (t:TypeId) (o:Nat) (vs:List Value):(w.alloc (.cells A t)).setCells w.heap.size o vs=w.alloc (.cells (putL o vs A) t):=by
 rw[zof7];unfold World.alloc;simp only
 congr 1
 apply Array.ext_getElem?;intro k;simp only[Array.getElem?_modify,Array.getElem?_push];by_cases h:w.heap.size=k
 ·subst h;simp[onC]
 ·rw[if_neg h];have h':¬k=w.heap.size:=fun e=>h e.symm
  simp only[h',if_false]
theorem FlatD.drop {F:Froz} {sz:Nat}:∀{ds:List Dat} {cs:List Value},FlatD F sz ds cs→∀n,FlatD F sz (ds.drop n) (cs.drop (n*sz))
 |[],cs,h,n=>by simp only[FlatD]at h;subst h;simp[FlatD]
 |d::r,cs,h,0=>by simpa using h
 |d::r,cs,h,n+1=>by
  simp only[FlatD]at h;obtain⟨c,cs',rfl,h1,h2,h3⟩:=h;have:=h3.drop n;rw[List.drop_succ_cons,show (n+1)*sz=c.length+n*sz by rw[Nat.add_mul,h1];omega,←List.drop_drop,List.drop_left];exact this
def insD (es:List Dat) (i:Nat) (d:Dat):List Dat:=es.take i++d::es.drop i
theorem insD_len {es:List Dat} {i:Nat} {d:Dat} (hi:i≤es.length):(insD es i d).length=es.length+1:=by
 simp[insD];omega
theorem insD_flat {F:Froz} {k:Nat} {es:List Dat} {old vs:List Value} {d:Dat} (h1:FlatD F k es old) (h2:FlatD F k [d] vs) (i:Nat):FlatD F k (insD es i d) (old.take (i*k)++(vs++old.drop (i*k))):=by
 have:=(h1.take i).append (h2.append (h1.drop i));simpa[insD]using this
section
variable {B:Base} {C:Ctx} {id:Id} {k ver n i c:Nat} {es0:List Dat} {d:Dat} {p:Option Addr} {old vs:List Value}
theorem ins_in (hI:Inv B C) (hρ:C.ρ id=some (.arr k ver false es0)) (hn:n≤es0.length) (hi:i≤n) (hc:n+1≤c) (g3:(C.μ id).n=c*k) (a5:0<c→p.isSome=true) (g4:0<c→p=some ⟨(C.μ id).b,(C.μ id).o,none⟩)
  (r1:FlatD C.F k (es0.take n) old) (r2:∀(j:Nat) (v:Value),old[j]?=some v→C.w.cell? ⟨(C.μ id).b,(C.μ id).o+j,none⟩=some v) (s1:FlatD C.F k [d] vs):
  Owes B C (.rsl id (ver+1) k 0 (n+1)) [(id,.arr k (ver+1) false (insD (es0.take n) i d))] (.slice p (n+1) c) (C.w.setCells (C.μ id).b ((C.μ id).o+i*k) (vs++old.drop (i*k))):=by
 obtain⟨o1,_,_,_⟩:=hI.objs id _ hρ;have hel:(es0.take n).length=n:=by simp;omega
 have hol:old.length=n*k:=by rw[r1.length,hel]
 have hvl:vs.length=k:=by rw[s1.length];simp
 have hik:i*k≤n*k:=Nat.mul_le_mul_right k hi;have hnk:(n+1)*k≤c*k:=Nat.mul_le_mul_right k hc;have hnk1:(n+1)*k=n*k+k:=by rw[Nat.add_mul,Nat.one_mul]
 have hfit:i*k+(vs++old.drop (i*k)).length≤(C.μ id).n:=by
  rw[List.length_append,List.length_drop,hol,hvl,g3];omega
 have hfl:=insD_flat r1 s1 i;have hil:(insD (es0.take n) i d).length=n+1:=by rw[insD_len (by omega),hel]
 have htl:(old.take (i*k)).length=i*k:=by rw[List.length_take];omega
 have hw:=hI.write hρ rfl (i*k) (vs++old.drop (i*k)) (ob':=.arr k (ver+1) false (insD (es0.take n) i d)) hfit ⟨Nat.le_succ _,fun e=>by omega⟩ (fun C' e1 e2 hg ho'=>by
  refine⟨o1,⟨c,g3,by omega⟩,fun _=>⟨ho',fun t dt ht=>?_⟩,fun e=>by cases e⟩;have hwc:=znd7 hI hρ rfl hfit;obtain⟨u,q1,q2,q3⟩:=hfl.get ht;refine⟨u,q1,RepD.mono hg.F _ _ q2,fun j v hj=>?_⟩;have q4:=q3 j v hj;rw[e1,Nat.add_assoc,hwc];by_cases hx:i*k≤t*k+j
  ·rw[List.getElem?_append_right (by rw[htl];exact hx),htl]at q4;have:=(List.getElem?_eq_some_iff.1 q4).1;rw[if_pos ⟨hx,by omega⟩];exact q4
  ·rw[List.getElem?_append_left (by rw[htl];omega),List.getElem?_take,if_pos (by omega)]at q4;rw[if_neg (by omega)];exact r2 _ _ q4)
 simp only at hw;refine⟨_,rfl,rfl,hw.1,hw.2,?_⟩;simp only[RepA];refine⟨⟨ver+1,k,(insD (es0.take n) i d).length,C.μ id⟩,p,c,by simp[arrAt,updL],Nat.le_refl _,rfl,hc,a5,fun _=>⟨rfl,by show 0+(n+1)≤(insD (es0.take n) i d).length;omega,by simpa using g3,by simpa using g4⟩⟩
theorem ins_out (hI:Inv B C) (hρ:C.ρ id=some (.arr k ver false es0)) (hk:0<k) (hn:n≤es0.length) (hi:i≤n) {G:Nat} (hG:n+1≤G) {ROW:Array Value} (hR:ROW.size=G*k) (hR0:∀j,j<i*k→ROW[j]?=old[j]?)
  (r1:FlatD C.F k (es0.take n) old) (s1:FlatD C.F k [d] vs) (t:TypeId):
  Owes B C (.rsl id (ver+1) k 0 (n+1)) [(id,.arr k (ver+1) false (insD (es0.take n) i d))] (.slice (some ⟨C.w.heap.size,0,none⟩) (n+1) G) (C.w.alloc (.cells (putL (i*k+k) (old.drop (i*k)) (putL (i*k) vs ROW)) t)):=by
 have hel:(es0.take n).length=n:=by simp;omega
 have hol:old.length=n*k:=by rw[r1.length,hel]
 have hvl:vs.length=k:=by rw[s1.length];simp
 have hik:i*k≤n*k:=Nat.mul_le_mul_right k hi;have hnk:(n+1)*k≤G*k:=Nat.mul_le_mul_right k hG;have hnk1:(n+1)*k=n*k+k:=by rw[Nat.add_mul,Nat.one_mul]
 have hfl:=insD_flat r1 s1 i;have hil:(insD (es0.take n) i d).length=n+1:=by rw[insD_len (by omega),hel]
 have htl:(old.take (i*k)).length=i*k:=by rw[List.length_take];omega
 have hnv:zwa7 C.ρ id=some (ver+1):=by simp[zwa7,hρ]
 have hcells:(putL (i*k+k) (old.drop (i*k)) (putL (i*k) vs ROW)).toList.take ((n+1)*k)=old.take (i*k)++(vs++old.drop (i*k)):=by
  apply List.ext_getElem?;intro j;rw[List.getElem?_take];by_cases hj:j<(n+1)*k
  ·rw[if_pos hj,Array.getElem?_toList,putL_get,putL_size,List.length_drop,hol,putL_get,hvl,hR];by_cases h1:j<i*k
   ·rw[if_neg (by omega),if_neg (by omega),List.getElem?_append_left (by omega),List.getElem?_take,if_pos h1];exact hR0 j h1
   ·rw[List.getElem?_append_right (by omega),htl];by_cases h2:j<i*k+k
    ·rw[if_neg (by omega),if_pos ⟨by omega,h2,by omega⟩,List.getElem?_append_left (by omega)]
    ·rw[if_pos ⟨by omega,by omega,by omega⟩,List.getElem?_append_right (by omega),hvl]
     congr 1;omega
  ·rw[if_neg hj,List.getElem?_eq_none];simp only[List.length_append,List.length_drop,htl,hvl,hol];omega
 have hnew:=arr_new hI (id:=id) (nv:=ver+1) hnv hk (ds:=insD (es0.take n) i d) (cs:=putL (i*k+k) (old.drop (i*k)) (putL (i*k) vs ROW)) G ⟨_,by rw[hil,hcells];exact hfl,by rw[putL_size,putL_size,hR],rfl⟩ (by omega) t;rw[hil]at hnew;exact hnew
end
theorem Owes.grow_from {B:Base} {C C1:Ctx} {v:AVal} {upd:List (Id×Obj)} {val:Value} {w':World} (hg:Grow C C1) (hρ:C1.ρ=C.ρ) (h:Owes B C1 v upd val w'):Owes B C v upd val w':=by
 obtain⟨C',h1,h2,h3,h4,h5⟩:=h;exact⟨C',h1,by rw[h2,hρ],h3,hg.trans h4,h5⟩
theorem shape_of {w:World} {b o:Nat} {v:Value} (h:w.cell? ⟨b,o,none⟩=some v):∃t n,w.shape? b=some (t,n)∧o<n:=by
 unfold World.cell? at h;unfold World.shape?;cases e:w.heap[b]? with
 |none=>simp[e]at h
 |some x=>
  cases x with
  |cells c t fr=>
   simp[e]at h;exact⟨t,c.size,rfl,(Array.getElem?_eq_some_iff.1 h).1⟩
  |_=>simp[e]at h
theorem ins_ov {P:Program} {ρ:Go.Shelf.Ren} {k:Nat} (L:InsL P ρ k) (w:World) (b o b2 o2 c l2 c2:Nat) (hl2:0<l2) (hap:∀j j',j<k→j'<l2*k→¬(b=b2∧o+j=o2+j')) {v v2:Value} (h1:w.cell? ⟨b,o,none⟩=some v) (h2:w.cell? ⟨b2,o2,none⟩=some v2)
  (hf:∀x,w.frozen? ⟨b,x,none⟩=false):(callFunc (ρ.f 29) #[.slice (some ⟨b,o,none⟩) 1 c,.slice (some ⟨b2,o2,none⟩) l2 c2]).run P w=.ok (.value (.bool false)) w:=by
 obtain⟨i0,zv,hi0,his,_,_⟩:=L.i9;have hz:∀w,(Go.sizeOf (ρ.t 9)).run P w=.ok k w:=fun w=>by simp[sizeOf,typeInfo,hi0,his]
 have hk:=L.k0;rw[L.ov];by_cases hb:b=b2
 ·subst hb;have hkl:0<l2*k:=Nat.mul_pos hl2 hk
  have hno:¬(o<o2+l2*k∧o2<o+k):=by
   rintro⟨g1,g2⟩;by_cases h:o≤o2
   ·exact hap (o2-o) 0 (by omega) hkl ⟨rfl,by omega⟩
   ·exact hap 0 (o-o2) hk (by omega) ⟨rfl,by omega⟩
  have h0:¬l2=0:=by omega
  have hk0:¬k=0:=by omega
  have hd:(decide (o<o2+l2*k)&&decide (o2<o+k))=false:=by
   rw[Bool.and_eq_false_iff];by_cases h:o<o2+l2*k
   ·right;simp;omega
   ·left;simp;omega
  have ho:(Extern.SlicesOverlaps.overlaps #[ρ.t 24,ρ.t 24] #[ρ.t 4] #[.slice (some ⟨b,o,none⟩) 1 c,.slice (some ⟨b,o2,none⟩) l2 c2]).run P w=.ok (.bool false) w:=by
   conv=>
    lhs
    arg 2
    whnf
   have hb:∀{α β:Type} (x:α) (f:α→Sem β),(pure x:Sem α).bind f=f x:=fun _ _=>rfl
   have hp:∀{α β:Type} (x:α) (f:α→Sem β),(Sem.pure x:Sem α).bind f=f x:=fun _ _=>rfl
   simp[Sem.run,hb,hp,L.t24,hz,h0,hk0,frozen,hd]
  rw[ho];rfl
 ·obtain⟨tA,kA,s1,s2⟩:=shape_of h1;obtain⟨tB,kB,s3,s4⟩:=shape_of h2;rw[Go.Lib.run_overlaps_apart w (ρ.t 24) (ρ.t 4) (ρ.t 9) L.t24 k hz ⟨b,o,none⟩ ⟨b2,o2,none⟩ 1 c l2 c2 hb tA tB kA kB s1 s3 (by omega) (hf _) (hf _)];rfl
theorem ins_flat {P:Program} {ρ:Go.Shelf.Ren} {k:Nat} (L:InsL P ρ k) {q:TI} (hq:tI P (ρ.t 9)=some q) (hqk:q.size=k) (hok:∃l,q.zero=some l∧l.length=q.size)
  {B:Base} {C:Ctx} (hI:Inv B C) {id id2:Id} {ver ver2 n i:Nat} {es0 es2:List Dat} {d:Dat} {v1 v2:Value}
  (hne:id≠id2) (hρ:C.ρ id=some (.arr k ver false es0)) (hρ2:C.ρ id2=some (.arr k ver2 false es2))
  (h1:RepA C (.rsl id ver k 0 n) v1) (h2:RepA C (.rsl id2 ver2 k 0 1) v2) (hn:n≤es0.length) (hd:es2[0]?=some d) (hi:i≤n) (hroom:(n+1)*(q.bytes+1)≤room):
  Calls P (ρ.f 22) #[v1,.int .i64 i,v2] C.w fun e w'=>∃val,e=.returned val∧Owes B C (.rsl id (ver+1) k 0 (n+1)) [(id,.arr k (ver+1) false (insD (es0.take n) i d))] val w':=by
 have hk:=L.k0;obtain⟨o1,_,o3,_⟩:=hI.objs id _ hρ;obtain⟨oown,oel0⟩:=o3 rfl;obtain⟨_,_,p3,_⟩:=hI.objs id2 _ hρ2;obtain⟨pown,pel0⟩:=p3 rfl;have hdis:=hI.disj id id2 _ _ hρ hρ2 rfl rfl hne;have h2':=h2;simp only[RepA]at h1 h2;obtain⟨A,p,c,a1,a2,rfl,a4,a5,a6⟩:=h1;have hA:A=⟨ver,k,es0.length,C.μ id⟩:=by simpa[arrAt,hρ]using a1.symm
 subst hA;obtain⟨g1,g2,g3,g4⟩:=a6 rfl;simp only[Nat.zero_add,Nat.zero_mul,Nat.add_zero]at g3 g4;obtain⟨A2,pp,vc,b1,b2,rfl,b4,b5,b6⟩:=h2;have hA2:A2=⟨ver2,k,es2.length,C.μ id2⟩:=by simpa[arrAt,hρ2]using b1.symm
 subst hA2;obtain⟨f1,f2,f3,f4⟩:=b6 rfl;simp only[Nat.zero_add,Nat.zero_mul,Nat.add_zero]at f3 f4;obtain rfl:=f4 (by omega)
 have hvck:k≤(C.μ id2).n:=by
  rw[f3]
  calc k=1*k:=by omega
   _≤vc*k:=Nat.mul_le_mul_right k b4
 obtain⟨old,r1,r2⟩:=flat_of (F:=C.F) (sz:=k) (fun j=>C.w.cell? ⟨(C.μ id).b,j,none⟩) (ds:=es0.take n) (C.μ id).o (fun i d hd=>oel0 i d (by
  rw[List.getElem?_take]at hd;split at hd
  ·exact hd
  ·cases hd))
 obtain⟨vs,s1,s2⟩:=flat_of (F:=C.F) (sz:=k) (fun j=>C.w.cell? ⟨(C.μ id2).b,j,none⟩) (ds:=[d]) (C.μ id2).o (fun i d' hd'=>pel0 i d' (by
  cases i with
  |zero=>simp at hd';subst hd';exact hd
  |succ i=>simp at hd'))
 have hel:(es0.take n).length=n:=by simp;omega
 have hol:old.length=n*k:=by rw[r1.length,hel]
 have hvl:vs.length=k:=by rw[s1.length];simp
 have hz:q.zero.isSome=true:=by obtain⟨l,hl,_⟩:=hok;simp[hl]
 have hzs:=zhe7 hq hok;have hr:room=1099511627776:=rfl;have hq1:n+1≤(n+1)*(q.bytes+1):=Nat.le_mul_of_pos_right _ (by omega);have hcell:∀j,j<c*k→(∃v,C.w.cell? ⟨(C.μ id).b,(C.μ id).o+j,none⟩=some v)∧C.w.frozen? ⟨(C.μ id).b,(C.μ id).o+j,none⟩=false:=fun j hj=>⟨(oown j (by omega)).1,(oown j (by omega)).2.1 _⟩
 have hbase:p=none→n=0∧c=0:=fun e=>by
  have:¬0<c:=fun h=>by have:=a5 h;rw[e]at this;simp at this
  omega
 by_cases hin:i=n
 ·
  subst hin
  obtain⟨cs,c1,c2,c3⟩:=zaf7 (P:=P) hI hk (x:=.rsl id2 ver2 k 0 1) (ds:=[d]) (by
   cases es2 with
   |nil=>simp at hd
   |cons x r=>simp at hd;subst hd;simp[srcOf,elemsOf,hρ2]) h2'
  have hcl:=c1.length;simp only[List.length_cons,List.length_nil,Nat.zero_add,Nat.one_mul]at hcl c2
  have happ:=run_app (P:=P) (argTypes:=#[ρ.t 24,ρ.t 24]) (ty:=ρ.t 24) (w:=C.w) (base:=p) (len:=i) (cap:=c) (b:=(C.μ id).b) (p:=(C.μ id).o) (x:=.slice (some ⟨(C.μ id2).b,(C.μ id2).o,none⟩) 1 vc) (n:=1) (old:=old) (news:=cs) rfl rfl L.t24 (.inl ⟨_,L.t24⟩) hq hz c2
   (fun w' hw'=>by
    have:=c3 1 (by simp) w' hw';rw[List.take_of_length_le (by rw[hcl];omega)]at this;rw[hqk];exact this) (by rw[hcl,hqk];omega) c1.one g4 a4 (by rw[hol,hqk]) r2 (fun h j hj=>by rw[hqk]at hj;exact hcell j hj) hroom (by omega) hzs
  rcases happ with⟨t1,t2,t3⟩|⟨cap',out,t1,t2,t3,t4⟩
  ·have hw:=ins_in hI hρ hn (Nat.le_refl i) t1 g3 a5 g4 r1 r2 c1;rw[List.drop_of_length_le (by rw[hol];exact Nat.le_refl _),List.append_nil]at hw;rw[hqk]at t3;exact (ins_end L p i c _ _ vc C.w hbase _ _ t3 a4 (by omega)).mono fun e w'' ⟨h1,h2⟩=>⟨_,h1,by rw[h2];exact hw⟩
  ·obtain⟨I1,G1⟩:=hI.drew;rw[hqk]at t2 t3;have hnv:zwa7 C.ρ id=some (ver+1):=by simp[zwa7,hρ]
   have hil:insD (es0.take i) i d=es0.take i++[d]:=by
    simp only[insD];rw[List.take_of_length_le (by omega),List.drop_of_length_le (by omega)]
   have hnew:=arr_new I1 (id:=id) (nv:=ver+1) hnv o1 (ds:=es0.take i++[d]) (cs:=out) cap' ⟨out,by
    rw[List.length_append,hel,show ([d]:List Dat).length=1 from rfl,t3];exact r1.append c1,t2,rfl⟩ (by rw[List.length_append,hel];exact t1) (ρ.t 9)
   rw[←hil,insD_len (by omega),hel]at hnew;exact (ins_end L p i c _ _ vc C.w hbase _ _ t4 a4 (by omega)).mono fun e w'' ⟨h1,h2⟩=>⟨_,h1,by rw[h2];exact hnew.grow_from G1 rfl⟩
 ·have hlt:i<n:=by omega
  have hpb:p=some ⟨(C.μ id).b,(C.μ id).o,none⟩:=g4 (by omega);have h1c:=r1.one;have h1v:=s1.one
  have hik:i*k+k≤n*k:=by
   have:=Nat.mul_le_mul_right k (show i+1≤n by omega)
   rwa [Nat.add_mul,Nat.one_mul]at this
  obtain⟨I1,G1⟩:=hI.drew;by_cases hroomc:n+1≤c
  ·have hnk:(n+1)*k≤c*k:=Nat.mul_le_mul_right k hroomc;rw[Nat.add_mul,Nat.one_mul]at hnk;have hni:(n-i)*k+i*k=n*k:=by rw[←Nat.add_mul];congr 1;omega
   obtain⟨u1,hu1⟩:=(pown 0 (by omega)).1;obtain⟨u2,hu2⟩:=(oown (i*k+k) (by omega)).1
   have hsh:=ins_shift L (C.μ id).b (C.μ id).o n c i (C.μ id2).b (C.μ id2).o vc old vs C.w hlt hroomc (by omega)
    (ins_ov L C.w _ _ _ _ vc _ _ (by omega) (fun j j' hj hj' hh=>hdis (i*k+k+j') j (by omega) (by omega) ⟨hh.1.symm,by omega⟩) hu1 hu2 (pown 0 (by omega)).2.1)
    (fun j j' hj hj' hh=>hdis j' j (by omega) (by omega) ⟨hh.1.symm,by omega⟩) hol hvl r2 (fun j hj=>by obtain⟨v,hv⟩:=(hcell j hj).1;rw[hv];rfl) (fun j hj=>(hcell j hj).2) s2 h1c h1v
   have hw:=ins_in I1 (C:={ C with w:=C.w.drew }) hρ hn hi hroomc g3 a5 g4 r1 r2 s1;subst hpb;refine hsh.mono fun e w'' ⟨h1,h2⟩=>⟨_,h1,?_⟩
   rw[h2,←hvl,show (C.μ id).o+(i*vs.length+vs.length)=(C.μ id).o+i*vs.length+vs.length by omega,setCells_two];rw[hvl];exact hw.grow_from G1 rfl
  ·obtain⟨z,G,z1,z2,z3⟩:=ins_grow L (C.μ id).b (C.μ id).o n c i (C.μ id2).b (C.μ id2).o vc old vs C.w hlt a4 (by omega) (fun i0 hi0=>by
    obtain⟨i',_,e1,_,_,e2,_⟩:=tI_info hq;rw[hi0]at e1;obtain rfl:=Option.some.inj e1;have:(n+1)*i0.bytes≤(n+1)*(q.bytes+1):=Nat.mul_le_mul_left _ (by omega);omega) (by omega) hol hvl r2 s2 h1c h1v
   obtain⟨I2,G2⟩:=I1.drew;have htl:(old.take (i*k)).length=i*k:=by rw[List.length_take];omega
   have hw:=ins_out I2 (C:={ C with w:=C.w.drew.drew }) hρ hk hn hi z2 (ROW:=(old.take (i*k)).toArray++Builtin.zeroCells z.cells (n+1-i)++Builtin.zeroCells z.cells (G-(n+1))) (by
    have hzl:∀m,(Builtin.zeroCells z.cells m).size=m*k:=by
     intro m;simp[Builtin.zeroCells,z1,Nat.mul_comm]
    rw[Array.size_append,Array.size_append,hzl,hzl,List.size_toArray,htl,←Nat.add_mul,←Nat.add_mul]
    congr 1;omega) (fun j hj=>by
    rw[Array.getElem?_append_left (by rw[Array.size_append,List.size_toArray,htl];omega),Array.getElem?_append_left (by rw[List.size_toArray,htl];omega)];simp[hj]) r1 s1 (ρ.t 9)
   subst hpb;refine z3.mono fun e w'' ⟨h1,h2⟩=>⟨_,h1,?_⟩
   rw[h2];have e1:((C.w.alloc (.cells ((old.take (i*k)).toArray++Builtin.zeroCells z.cells (n+1-i)++Builtin.zeroCells z.cells (G-(n+1))) (ρ.t 9))).drew.setCells C.w.heap.size (i*k) vs)=C.w.drew.alloc (.cells (putL (i*k) vs ((old.take (i*k)).toArray++Builtin.zeroCells z.cells (n+1-i)++Builtin.zeroCells z.cells (G-(n+1)))) (ρ.t 9)):=setCells_new C.w.drew _ _ _ _;rw[e1];have e2:∀X,((C.w.drew.alloc (.cells X (ρ.t 9))).drew.setCells C.w.heap.size (i*k+k) (old.drop (i*k)))=C.w.drew.drew.alloc (.cells (putL (i*k+k) (old.drop (i*k)) X) (ρ.t 9)):=fun X=>setCells_new C.w.drew.drew _ _ _ _
   rw[e2];exact hw.grow_from (G1.trans G2) rfl
end Go.Am

namespace Go.Am
open Go.Proofs
variable [Glob]
def putAll (os:List TObj):List (RId×TObj)→List TObj
 |[]=>os
 |u::us=>putAll (os.set u.1.2 u.2) us
def inPos (os:List TObj) (us:List (RId×TObj)):Bool:=us.all fun u=>u.1.1==0&&decide (u.1.2<os.length)
theorem putAll_look:∀(us:List (RId×TObj)) (os:List TObj),inPos os us=true→zpa7 (putAll os us)=updT (zpa7 os) us∧(putAll os us).length=os.length
 |[],os,_=>⟨rfl,rfl⟩
 |u::us,os,h=>by
  simp only[inPos,List.all_cons,Bool.and_eq_true,beq_iff_eq,decide_eq_true_eq]at h;obtain⟨⟨h1,h2⟩,h3⟩:=h;obtain⟨⟨a,b⟩,o⟩:=u;dsimp only at h1 h2;subst h1;obtain⟨i1,i2⟩:=putAll_look us (os.set b o) (by simpa[inPos]using h3)
  have e:zpa7 (os.set b o)=updT (zpa7 os) [((0,b),o)]:=by
   funext r;obtain⟨x,y⟩:=r;simp only[zpa7,updT];by_cases hx:x=0
   ·subst hx;simp only[if_true,List.getElem?_set,Prod.mk.injEq,true_and];by_cases hy:b=y
    ·subst hy;simp[h2]
    ·simp[hy]
   ·have hx':¬0=x:=fun e=>hx e.symm
    simp[hx,hx']
  exact⟨by rw[putAll,i1,e,←zob7];rfl,by rw[putAll,i2,List.length_set]⟩
def insK (sz bytes:Nat) (args:List AVal) (os:List TObj):Option (AVal×List TObj):=
 match args with
 |[.rsl id ver sz1 off n,.dat (.int .i64 i),.rsl id2 ver2 sz2 off2 m]=>
  match flat (zpa7 os) id,flat (zpa7 os) id2 with
  |some (.arr s1 v1 false es0),some (.arr s2 v2 false es2)=>
   match es2[0]? with
   |some d=>
    if (id≠id2∧s1=sz∧s2=sz∧sz1=sz∧sz2=sz∧v1=ver∧v2=ver2∧off=0∧off2=0∧m=1)∧n≤es0.length∧0≤i∧i≤n∧(n+1)*(bytes+1)≤room then
     match lift (zpa7 os) [(id,.arr sz (ver+1) false (insD (es0.take n) i.toNat d))]with
     |some us=>if inPos os us=true then some (.rsl id (ver+1) sz 0 (n+1),putAll os us) else none
     |none=>none
    else none
   |none=>none
  |_,_=>none
 |_=>none
theorem insK_ok {P:Program} {ρ:Go.Shelf.Ren} {k:Nat} (L:InsL P ρ k) {q:TI} (hq:tI P (ρ.t 9)=some q) (hqk:q.size=k) (hok:∃l,q.zero=some l∧l.length=q.size)
  {args:List AVal} {os:List TObj} {v:AVal} {os':List TObj} (h:insK k q.bytes args os=some (v,os')):CallOK P (ρ.f 22) args os v os':=by
 unfold insK at h;split at h;rotate_left
 ·cases h
 rename_i id ver sz1 off n i id2 ver2 sz2 off2 m;split at h;rotate_left
 ·cases h
 rename_i s1 w1 es0 s2 w2 es2 ho1 ho2;split at h;rotate_left
 ·cases h
 rename_i d hd;split at h;rotate_left
 ·cases h
 rename_i hc;obtain⟨⟨hne,rfl,rfl,rfl,rfl,rfl,rfl,rfl,rfl,rfl⟩,hn,hi0,hi,hroom⟩:=hc;split at h;rotate_left
 ·cases h
 rename_i us hus;split at h;rotate_left
 ·cases h
 rename_i hin;simp only[Option.some.injEq,Prod.mk.injEq]at h;obtain⟨rfl,rfl⟩:=h;intro C vals hρ hG hI hr;obtain⟨i,rfl⟩:=Int.eq_ofNat_of_zero_le hi0;simp only[RepL]at hr;obtain⟨v1,_,e1,r1,v2,_,e2,r2,v3,_,e3,r3,e4⟩:=hr;subst e4 e3 e2
 have hv:vals=#[v1,v2,v3]:=by
  apply Array.ext';rw[e1]
 subst hv
 have hv2:v2=.int .i64 i:=by
  simp only[RepA,RepV,RepD]at r2;have:=r2.2;have h3:=zva7 (v:=v2) (by simpa[Dat.isAgg]using this);rw[h3]at r2;simpa using r2.1
 subst hv2;have hρ1:=(congrFun hρ id).trans ho1;have hρ2:=(congrFun hρ id2).trans ho2;refine (ins_flat L hq hqk hok hI hne hρ1 hρ2 r1 r3 hn hd (by omega) hroom).mono fun e w' hp=>?_
 obtain⟨val,rfl,C1,h1,h2,h3,h4,h5⟩:=hp;rw[hρ]at h2;obtain⟨C2,g1,g2,g3,g4,g5⟩:=lift_ok h3 h2 hus;obtain⟨p1,p2⟩:=putAll_look us os hin;have hg:=h4.trans g5;refine⟨val,C2,rfl,by rw[g1,h1],by rw[g3,p1],g4,h5.grow g5,⟨hg.F,fun id L _=>hg.box id L trivial,fun id A _=>hg.arr id A trivial,fun id b _=>hg.blk id b trivial⟩⟩
end Go.Am

namespace Go.Am
open Go.Proofs
variable [Glob]
def slOf:Dat→List Dat
 |.sl l=>l
 |_=>[]
def famD (ds:List Dat):List Cell:=ds.map fun d=>.d (slOf d)
theorem arr_fam {B:Base} {C:Ctx} (hI:Inv B C) {T':TLook} {r:RId} {ver pv:Nat} {ds:List Dat} (hroot:C.ρ (r,0,0)=some (.arr 1 ver false ds)) (hds:∀d∈ds,∃l,d=.sl l)
  (hk:∀j,∃sz v fz l,C.ρ (r,j+1,0)=some (.arr sz v fz l)∧v<pv) (hz:∀x y,y≠0→C.ρ (r,x,y)=none) (hT:T' r=some (.fam ver pv false (famD ds))) (ho:∀id:Id,id.1≠r→flat T' id=C.ρ id):
  ∃C':Ctx,C'.w=C.w∧C'.ρ=flat T'∧Inv B C'∧Grow C C':=by
 let C':Ctx:={ C with ρ:=flat T' }
 have hroot':C'.ρ (r,0,0)=some (.rarr 1 ver (rowsA r pv 0 (famD ds))):=by simp only[C'];rw[zec7 hT];rfl
 have hkid':∀j,∃L,C'.ρ (r,j+1,0)=some (.arr 1 pv true L)∧L=[]:=fun j=>by
  refine⟨[],?_,rfl⟩;simp only[C'];rw[zac7 hT];cases hc:(famD ds)[j]? with
  |none=>rfl
  |some c=>
   simp only[famD,List.getElem?_map]at hc;obtain⟨d,_,rfl⟩:=zda7 hc;rfl
 have hodd':∀x y,y≠0→C'.ρ (r,x,y)=none:=fun x y hy=>zwe7 ⟨_,_,_,_,hT⟩ hy
 have hoth:∀id:Id,id.1≠r→C'.ρ id=C.ρ id:=ho
 have hblk:∀id x,id.1=r→C.ρ id≠some (.blk x)∧C'.ρ id≠some (.blk x)∧(∀l,C.ρ id≠some (.box l)):=by
  rintro⟨r',x,y⟩ b rfl;by_cases hy:y=0
  ·subst hy;cases x with
   |zero=>rw[hroot,hroot'];simp
   |succ j=>
    obtain⟨sz,v,fz,l,q,_⟩:=hk j;obtain⟨L,q',_⟩:=hkid' j;rw[q,q'];simp
  ·rw[hz x y hy,hodd' x y hy];simp
 have hg:Grow C C':=by
  refine⟨fun _ _ _ h=>h,fun id L _ hb=>?_,fun id A _ ha=>?_,fun id b _ hb=>?_⟩
  ·by_cases e:id.1=r
   ·have:=(hblk id .dead e).2.2;unfold boxAt at hb;split at hb
    ·rename_i l hl;exact absurd hl (this l)
    ·cases hb
   ·unfold boxAt at hb ⊢;rw[hoth id e];exact hb
  ·by_cases e:id.1=r
   ·obtain⟨r',x,y⟩:=id;subst e;by_cases hy:y=0
    ·subst hy;cases x with
     |zero=>
      refine⟨A,?_,Nat.le_refl _,fun _=>⟨rfl,rfl,Nat.le_refl _⟩⟩;unfold arrAt at ha ⊢;rw[hroot]at ha;rw[hroot'];simpa[zia7,famD]using ha
     |succ j=>
      obtain⟨sz,v,fz,l,q,hv⟩:=hk j;obtain⟨L,q',rfl⟩:=hkid' j;have hA:A=⟨v,sz,l.length,C.μ (r',j+1,0)⟩:=by unfold arrAt at ha;rw[q]at ha;simpa using ha.symm
      subst hA;exact⟨⟨pv,1,0,C'.μ (r',j+1,0)⟩,by unfold arrAt;rw[q'];rfl,Nat.le_of_lt hv,fun e=>by simp only at e;omega⟩
    ·unfold arrAt at ha;rw[hz x y hy]at ha;cases ha
   ·refine⟨A,?_,Nat.le_refl _,fun _=>⟨rfl,rfl,Nat.le_refl _⟩⟩;unfold arrAt at ha ⊢;rw[hoth id e];exact ha
  ·by_cases e:id.1=r
   ·unfold blkAt at hb;split at hb
    ·rename_i x hx;exact absurd hx (hblk id x e).1
    ·cases hb
   ·unfold blkAt at hb ⊢;rw[hoth id e];exact hb
 refine⟨C',rfl,rfl,?_,hg⟩;refine hI.redesc rfl rfl (fun i=>i) (fun id o ho'=>?_) (fun id o ho' how=>?_) (fun _ _ _ _ _ _ _ _ e=>e) (fun id x hx=>?_)
 ·by_cases e:id.1=r
  ·obtain⟨r',x,y⟩:=id;subst e;by_cases hy:y=0
   ·subst hy;cases x with
    |zero=>
     rw[hroot']at ho';simp only[Option.some.injEq]at ho';subst ho';obtain⟨o1,⟨cap,o2,o2'⟩,o3,_⟩:=hI.objs _ _ hroot;obtain⟨oown,oel⟩:=o3 rfl;refine⟨o1,⟨cap,o2,by rw[zia7];simpa[famD]using o2'⟩,fun row hrow=>?_,fun j hj=>oown j hj,fun i row hrow j a ha=>?_⟩
     ·obtain⟨i,hi⟩:=List.getElem?_of_mem hrow;rw[zjb7]at hi;obtain⟨c,_,rfl⟩:=zda7 hi;exact⟨rfl,by simp only[List.all_cons,List.all_nil,zbd7,Bool.and_true]⟩
     ·rw[zjb7]at hrow;obtain⟨c,hc,rfl⟩:=zda7 hrow;simp only[famD,List.getElem?_map]at hc;obtain⟨d,hd,rfl⟩:=zda7 hc;cases j with
      |succ j=>simp at ha
      |zero=>
       simp at ha;subst ha;obtain⟨l,rfl⟩:=hds d (List.mem_of_getElem? hd);obtain⟨cs,q1,q2,q3⟩:=oel i _ hd
       match cs,q1 with
       |[c],_=>
        refine⟨c,q3 0 c rfl,?_⟩;simp only[cellA,slOf,RepA];exact zhb7 rfl q2
    |succ j=>
     obtain⟨L,q',rfl⟩:=hkid' j;rw[q']at ho';simp only[Option.some.injEq]at ho';subst ho';exact zod7
   ·rw[hodd' x y hy]at ho';cases ho'
  ·rw[hoth id e]at ho';exact (hI.objs id o ho').same rfl rfl hg
 ·by_cases e:id.1=r
  ·obtain⟨r',x,y⟩:=id;subst e;by_cases hy:y=0
   ·subst hy;cases x with
    |zero=>exact⟨_,hroot,rfl,rfl⟩
    |succ j=>
     obtain⟨L,q',rfl⟩:=hkid' j;rw[q']at ho';simp only[Option.some.injEq]at ho';subst ho';simp[Obj.own]at how
   ·rw[hodd' x y hy]at ho';cases ho'
  ·rw[hoth id e]at ho';exact⟨o,ho',how,rfl⟩
 ·by_cases e:id.1=r
  ·exact absurd hx (hblk id x e).2.1
  ·rw[hoth id e]at hx;exact⟨x,hx,rfl⟩
def insF (bytes:Nat) (args:List AVal) (os:List TObj):Option (AVal×List TObj):=
 match args with
 |[.rsl ((a,r),x1,y1) ver sz1 off n,.dat (.int .i64 i),.rsl ((a2,r2),x2,y2) ver2 sz2 off2 m]=>
  match (os[r]?:Option TObj),(os[r2]?:Option TObj) with
  |some (.fam v1 pv false cells),some (.plain (.arr s2 v2 false es2))=>
   match es2[0]? with
   |some (Dat.sl l)=>
    if (a=0∧a2=0∧r≠r2∧(x1,y1)=(0,0)∧(x2,y2)=(0,0)∧sz1=1∧s2=1∧sz2=1∧v1=ver∧v2=ver2∧off=0∧off2=0∧m=1)∧cells.all Cell.fresh=true∧n≤cells.length∧0≤i∧i≤n∧(n+1)*(bytes+1)≤room then
     some (.rsl ((0,r),0,0) (ver+1) 1 0 (n+1),os.set r (.fam (ver+1) (pv+1) false (famD (insD ((cells.map Cell.dat).take n) i.toNat (.sl l)))))
    else none
   |_=>none
  |_,_=>none
 |_=>none
theorem insF_ok {P:Program} {ρ:Go.Shelf.Ren} (L:InsL P ρ 1) {q:TI} (hq:tI P (ρ.t 9)=some q) (hqk:q.size=1) (hok:∃l,q.zero=some l∧l.length=q.size)
  {args:List AVal} {os:List TObj} {v:AVal} {os':List TObj} (h:insF q.bytes args os=some (v,os')):CallOK P (ρ.f 22) args os v os':=by
 unfold insF at h;split at h;rotate_left
 ·cases h
 rename_i a r x1 y1 ver sz1 off n i a2 r2 x2 y2 ver2 sz2 off2 m;split at h;rotate_left
 ·cases h
 rename_i v1 pv cells s2 v2 es2 ho1 ho2;split at h;rotate_left
 ·cases h
 rename_i l hd;split at h;rotate_left
 ·cases h
 rename_i hc;obtain⟨⟨rfl,rfl,hne,e1,e2,rfl,rfl,rfl,rfl,rfl,rfl,rfl,rfl⟩,hfr,hn,hi0,hi,hroom⟩:=hc;simp only[Prod.mk.injEq]at e1 e2;obtain⟨rfl,rfl⟩:=e1;obtain⟨rfl,rfl⟩:=e2;simp only[Option.some.injEq,Prod.mk.injEq]at h;obtain⟨rfl,rfl⟩:=h;intro C vals hρ hG hI hr;obtain⟨i,rfl⟩:=Int.eq_ofNat_of_zero_le hi0;simp only[RepL]at hr;obtain⟨w1,_,e1,r1,w2,_,e2,r2',w3,_,e3,r3,e4⟩:=hr;subst e4 e3 e2
 have hv:vals=#[w1,w2,w3]:=by
  apply Array.ext';rw[e1]
 subst hv
 have hv2:w2=.int .i64 i:=by
  simp only[RepA,RepV,RepD]at r2';have h3:=zva7 (v:=w2) (by simpa[Dat.isAgg]using r2'.2);rw[h3]at r2';simpa using r2'.1
 subst hv2;have hT:zpa7 os (0,r)=some (.fam v1 pv false cells):=by simp[zpa7,ho1]
 have hT2:zpa7 os (0,r2)=some (.plain (.arr 1 v2 false es2)):=by simp[zpa7,ho2]
 have hlt:r<os.length:=(List.getElem?_eq_some_iff.1 ho1).1;obtain⟨C2,k1,hI2,hg,hC2r,q1,q2,q3⟩:=fam_thaw hI hρ hT hfr
 have hρ2:C2.ρ ((0,r2),0,0)=some (.arr 1 v2 false es2):=by
  rw[q3 _ (by simp;exact fun e=>hne e.symm),zxa7 hT2]
 have hneq:(((0,r),0,0):Id)≠((0,r2),0,0):=by simp;exact hne
 have hcall:=ins_flat L hq hqk hok hI2 hneq hC2r hρ2 (r1.grow hg) (r3.grow hg) (by simpa using hn) hd (show i≤n by omega) hroom;rw[k1]at hcall;refine hcall.mono fun e w' hp=>?_
 obtain⟨val,rfl,C3,h1,h2,h3,h4,h5⟩:=hp;simp only[Int.toNat_natCast];generalize hN:insD ((cells.map Cell.dat).take n) i (.sl l)=ds at *
 have hds:∀d∈ds,∃l,d=Dat.sl l:=by
  intro d hd';rw[←hN]at hd'
  have hcd:∀d∈cells.map Cell.dat,∃l,d=Dat.sl l:=by
   intro d h;obtain⟨c,_,rfl⟩:=List.mem_map.1 h;cases c<;>exact⟨_,rfl⟩
  simp only[insD,List.mem_append,List.mem_cons]at hd';rcases hd' with h|rfl|h
  ·exact hcd d (List.mem_of_mem_take (List.mem_of_mem_take h))
  ·exact⟨l,rfl⟩
  ·exact hcd d (List.mem_of_mem_take (List.mem_of_mem_drop h))
 have hroot3:C3.ρ ((0,r),0,0)=some (.arr 1 (v1+1) false ds):=by rw[h2];simp[updL]
 have hoth3:∀id:Id,id≠((0,r),0,0)→C3.ρ id=C2.ρ id:=fun id hid=>by rw[h2];simp only[updL];rw[if_neg (fun e=>hid e.symm)]
 have hset:∀j o,zpa7 (os.set r o) j=if ((0,r):RId)=j then some o else zpa7 os j:=by
  intro j o;obtain⟨x,y⟩:=j;simp only[zpa7];by_cases hx:x=0
  ·subst hx;simp only[if_true,List.getElem?_set,Prod.mk.injEq,true_and];by_cases hy:r=y
   ·subst hy;simp[hlt]
   ·simp[hy]
  ·have hx':¬0=x:=fun e=>hx e.symm
   simp[hx,hx']
 obtain⟨C4,m1,m2,m3,m4⟩:=arr_fam h3 (T':=zpa7 (os.set r (.fam (v1+1) (pv+1) false (famD ds)))) (r:=(0,r)) (pv:=pv+1) hroot3 hds (fun j=>by
   rw[hoth3 _ (by simp),q1 j];obtain⟨sz,fz,l,e⟩:=zhc7 pv ((cells[j]?).map Cell.freeze);exact⟨sz,pv,fz,l,by rw[e],by omega⟩) (fun x y hy=>by rw[hoth3 _ (by simp;intro _ e;exact hy e),q2 x y hy]) (by rw[hset];simp) (fun id hid=>by
   rw[hoth3 _ (fun e=>hid (by rw[e])),q3 id hid];apply zka7;rw[hset,if_neg (fun e=>hid e.symm)])
 have hgg:=(hg.trans h4).trans m4
 exact⟨val,C4,rfl,by rw[m1,h1],m2,by
  have:Inv (baseOf C) C4:=m3;exact this,h5.grow m4,⟨hgg.F,fun id L _=>hgg.box id L trivial,fun id A _=>hgg.arr id A trivial,fun id b _=>hgg.blk id b trivial⟩⟩
end Go.Am
