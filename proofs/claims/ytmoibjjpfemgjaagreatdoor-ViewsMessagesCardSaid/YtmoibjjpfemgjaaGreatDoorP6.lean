/- Parts of the proofs of the statement, joined and made short: AmMem AmMake. -/
import Derived.Test.YtmoibjjpfemgjaaGreatDoorP5
import Derived.Laws.AppendOwn
set_option linter.unusedVariables false
set_option linter.unusedSimpArgs false
set_option linter.unusedSectionVars false
namespace Go.Am
variable [Glob]
def FlatD (F:Froz) (sz:Nat):List Dat→List Value→Prop
 |[],cs=>cs=[]
 |d::r,cs=>∃c cs',cs=c++cs'∧c.length=sz∧RepD F d c∧FlatD F sz r cs'
theorem FlatD.length {F:Froz} {sz:Nat}:∀{ds:List Dat} {cs:List Value},FlatD F sz ds cs→cs.length=ds.length*sz
 |[],cs,h=>by simp only[FlatD]at h;simp[h]
 |d::r,cs,h=>by
  simp only[FlatD]at h;obtain⟨c,cs',rfl,h1,_,h3⟩:=h;simp only[List.length_append,h1,h3.length,List.length_cons,Nat.add_mul];omega
theorem FlatD.mono {F F':Froz} (hF:F.le F') {sz:Nat}:∀{ds:List Dat} {cs:List Value},FlatD F sz ds cs→FlatD F' sz ds cs
 |[],cs,h=>h
 |d::r,cs,h=>by
  simp only[FlatD]at h ⊢;obtain⟨c,cs',h0,h1,h2,h3⟩:=h;exact⟨c,cs',h0,h1,RepD.mono hF _ _ h2,h3.mono hF⟩
theorem FlatD.get {F:Froz} {sz:Nat}:∀{ds:List Dat} {cs:List Value},FlatD F sz ds cs→∀{i:Nat} {d:Dat},ds[i]?=some d→
  ∃c,c.length=sz∧RepD F d c∧∀(j:Nat) (v:Value),c[j]?=some v→cs[i*sz+j]?=some v
 |[],cs,h,i,d,hi=>by simp at hi
 |x::r,cs,h,i,d,hi=>by
  simp only[FlatD]at h;obtain⟨c,cs',rfl,h1,h2,h3⟩:=h;cases i with
  |zero=>
   simp at hi;subst hi;refine⟨c,h1,h2,fun j v hj=>?_⟩;have:=(List.getElem?_eq_some_iff.1 hj).1;simpa[List.getElem?_append_left this]using hj
  |succ i=>
   simp at hi;obtain⟨c',h4,h5,h6⟩:=h3.get hi;refine⟨c',h4,h5,fun j v hj=>?_⟩;rw[List.getElem?_append_right (by rw[h1,Nat.add_mul];omega),h1];have:=h6 j v hj
   rwa [show (i+1)*sz+j-sz=i*sz+j by rw[Nat.add_mul];omega]
theorem FlatD.append {F:Froz} {sz:Nat}:∀{ds ds':List Dat} {cs cs':List Value},FlatD F sz ds cs→FlatD F sz ds' cs'→FlatD F sz (ds++ds') (cs++cs')
 |[],ds',cs,cs',h,h'=>by simp only[FlatD]at h;subst h;simpa using h'
 |d::r,ds',cs,cs',h,h'=>by
  simp only[FlatD]at h;obtain⟨c,cs'',rfl,h1,h2,h3⟩:=h;simp only[List.cons_append,FlatD];exact⟨c,cs''++cs',by simp,h1,h2,h3.append h'⟩
theorem FlatD.one {F:Froz} {sz:Nat}:∀{ds:List Dat} {cs:List Value},FlatD F sz ds cs→∀c∈cs,c.oneCell'=true
 |[],cs,h=>by simp only[FlatD]at h;subst h;simp
 |d::r,cs,h=>by
  simp only[FlatD]at h;obtain⟨c,cs',rfl,h1,h2,h3⟩:=h;intro x hx;rcases List.mem_append.1 hx with hx|hx
  ·exact h2.one x hx
  ·exact h3.one x hx
theorem FlatD.width {F:Froz} {sz:Nat}:∀{ds:List Dat} {cs:List Value},FlatD F sz ds cs→∀d∈ds,d.width=sz
 |[],cs,h,d,hd=>by simp at hd
 |x::r,cs,h,d,hd=>by
  simp only[FlatD]at h;obtain⟨c,cs',rfl,h1,h2,h3⟩:=h;cases hd with
  |head=>rw[←h2.length,h1]
  |tail _ hd=>exact h3.width d hd
theorem flat_of {F:Froz} {sz:Nat} (M:Nat→Option Value):∀{ds:List Dat} (o:Nat),(∀(i:Nat) (d:Dat),ds[i]?=some d→∃c,c.length=sz∧RepD F d c∧∀(j:Nat) (v:Value),c[j]?=some v→M (o+i*sz+j)=some v)→
  ∃cs,FlatD F sz ds cs∧∀(j:Nat) (v:Value),cs[j]?=some v→M (o+j)=some v
 |[],o,h=>⟨[],rfl,by simp⟩
 |d::r,o,h=>by
  obtain⟨c,h1,h2,h3⟩:=h 0 d rfl
  obtain⟨cs,h4,h5⟩:=flat_of M (ds:=r) (o+sz) (fun i d hi=>by
   obtain⟨c,h1,h2,h3⟩:=h (i+1) d (by simpa using hi);refine⟨c,h1,h2,fun j v hj=>?_⟩;have:=h3 j v hj
   rwa [show o+(i+1)*sz+j=o+sz+i*sz+j by rw[Nat.add_mul];omega]at this)
  refine⟨c++cs,⟨c,cs,rfl,h1,h2,h4⟩,fun j v hj=>?_⟩;rcases Nat.lt_or_ge j c.length with hlt|hge
  ·rw[List.getElem?_append_left hlt]at hj;have:=h3 j v hj;simpa using this
  ·rw[List.getElem?_append_right hge]at hj;have:=h5 _ v hj
   rwa [show o+sz+(j-c.length)=o+j by omega]at this
theorem flat_row {F:Froz} {sz b o:Nat} {ds:List Dat} {cs:List Value} (h:FlatD F sz ds cs) (hc:cellsAt F b o cs):RowD F ds b o sz:=by
 refine rowD_of fun i d hd=>?_
 obtain⟨c,h1,h2,h3⟩:=h.get hd;refine⟨c,h1,h2,fun j v hj=>?_⟩;have:=hc _ _ (h3 j v hj)
 rwa [←Nat.add_assoc]at this
theorem znc7 {F:Froz} {d:Dat} {c:List Value} (h:RepD F d c):∀(n:Nat),FlatD F d.width (List.replicate n d) (List.replicate n c).flatten
 |0=>rfl
 |n+1=>by
  simp only[List.replicate_succ,List.flatten_cons,FlatD];exact⟨c,_,rfl,h.length,h,znc7 h n⟩
section
variable {P:Program} {o:Oper} {a:Act} {B:Base} {C:Ctx} {g:Nat→AVal}
theorem Inv.elem (hI:Inv B C) {id:Id} {sz ver:Nat} {fz:Bool} {es:List Dat} (h:C.ρ id=some (.arr sz ver fz es)) {i:Nat} {d:Dat} (hd:es[i]?=some d):
  ∃c,c.length=sz∧RepD C.F d c∧∀(j:Nat) (v:Value),c[j]?=some v→C.w.cell? ⟨(C.μ id).b,(C.μ id).o+i*sz+j,none⟩=some v:=by
 obtain⟨h1,h2,h3,h4⟩:=hI.objs id _ h;cases fz
 ·exact (h3 rfl).2 i d hd
 ·obtain⟨c,q1,q2,q3⟩:=(h4 rfl).get hd;exact⟨c,q1,q2,fun j v hj=>hI.Fw _ _ _ (q3 j v hj)⟩
theorem addr_cells {w:World} {b o:Nat} {cs:List Value} (h:∀(j:Nat) (v:Value),cs[j]?=some v→w.cell? ⟨b,o+j,none⟩=some v):
  ∀(j:Nat) (v:Value),cs[j]?=some v→w.cell? ((⟨b,o,none⟩:Addr).add j)=some v:=fun j v hj=>by rw[Addr.add_mk];exact h j v hj
theorem elemsOf_rep (hI:Inv B C) {sz:Nat} {x:AVal} {ds:List Dat} {val:Value} (h:elemsOf C.ρ sz x=some ds) (hr:RepA C x val):
  ∃p cap cs,val=.slice p ds.length cap∧FlatD C.F sz ds cs∧(0<ds.length→∃b o,p=some ⟨b,o,none⟩∧∀(j:Nat) (v:Value),cs[j]?=some v→C.w.cell? ⟨b,o+j,none⟩=some v):=by
 unfold elemsOf at h;split at h
 ·rename_i l;split at h
  ·rename_i hall;simp only[Option.some.injEq]at h;subst h;simp only[RepA]at hr;have:=hr.cell rfl;simp only[RepD]at this;obtain⟨p,cap,h1,h2,h3⟩:=this;simp only[List.cons.injEq,and_true]at h1;rcases h3 with h3|⟨b,o,sz',ha,hrow⟩
   ·subst h3;exact⟨p,cap,[],h1,rfl,by simp⟩
   ·cases l with
    |nil=>exact⟨p,cap,[],h1,rfl,by simp⟩
    |cons d r=>
     have hsz:sz'=sz:=by
      have w1:=hrow.width d (by simp);simp at hall;omega
     subst hsz
     obtain⟨cs,h4,h5⟩:=flat_of (F:=C.F) (sz:=sz') (fun j=>C.F b j) (ds:=d::r) o (fun i d hd=>by
      obtain⟨c,q1,q2,q3⟩:=hrow.get hd;exact⟨c,q1,q2,fun j v hj=>q3 j v hj⟩)
     exact⟨p,cap,cs,h1,h4,fun _=>⟨b,o,ha,fun j v hj=>hI.Fw _ _ _ (h5 j v hj)⟩⟩
  ·cases h
 ·simp only[Option.some.injEq]at h;subst h;simp only[RepA]at hr;exact⟨none,0,[],hr,rfl,by simp⟩
 ·simp only[Option.some.injEq]at h;subst h;simp only[RepA]at hr;obtain⟨p,c,h1,h2⟩:=hr;exact⟨p,c,[],h1,rfl,by simp⟩
 ·simp only[Option.some.injEq]at h;subst h;simp only[RepA]at hr;obtain⟨p,h1⟩:=hr;exact⟨p,0,[],h1,rfl,by simp⟩
 ·rename_i id ver sz' off len;split at h
  ·rename_i sz'' ver' fz es hρ;split at h
   ·rename_i hc;obtain⟨rfl,rfl,rfl,hb⟩:=hc;simp only[Option.some.injEq]at h;subst h;simp only[RepA]at hr;obtain⟨A,p,cap,q1,q2,q3,q4,q5,q6⟩:=hr;have hA:A=⟨ver,sz,es.length,C.μ id⟩:=by simpa[arrAt,hρ]using q1.symm
    subst hA;obtain⟨g1,g2,g3,g4⟩:=q6 rfl;have hlen:((es.drop off).take len).length=len:=by simp;omega
    obtain⟨cs,h4,h5⟩:=flat_of (F:=C.F) (sz:=sz) (fun j=>C.w.cell? ⟨(C.μ id).b,j,none⟩) (ds:=(es.drop off).take len) ((C.μ id).o+off*sz) (fun i d hd=>by
     rw[List.getElem?_take]at hd;split at hd
     ·rw[List.getElem?_drop]at hd;obtain⟨c,r1,r2,r3⟩:=hI.elem hρ hd;refine⟨c,r1,r2,fun j v hj=>?_⟩;have:=r3 j v hj
      rwa [show (C.μ id).o+off*sz+i*sz+j=(C.μ id).o+(off+i)*sz+j by rw[Nat.add_mul];omega]
     ·cases hd)
    refine⟨p,cap,cs,by rw[hlen];exact q3,h4,fun hp=>?_⟩;rw[hlen]at hp;exact⟨_,_,g4 (by omega),fun j v hj=>h5 j v hj⟩
   ·cases h
  ·cases h
 ·cases h
theorem zlb7 {w:World} {p:Option Addr} {len cap n sz:Nat} {cs:List Value} (hl:cs.length=n*sz) (h:0<cs.length→∃b o,p=some ⟨b,o,none⟩∧∀(j:Nat) (v:Value),cs[j]?=some v→w.cell? ⟨b,o+j,none⟩=some v):
  (Builtin.firstCells sz n (.slice p len cap)).run P w=.ok cs.toArray w:=by
 cases p with
 |none=>
  have:cs=[]:=by
   cases cs with
   |nil=>rfl
   |cons c r=>obtain⟨b,o,h1,_⟩:=h (by simp);cases h1
  subst this;exact run_firstCells_none w sz n len cap
 |some p=>
  cases cs with
  |nil=>exact run_firstCells_some w sz n p len cap [] hl (by simp)
  |cons c r=>
   obtain⟨b,o,h1,h2⟩:=h (by simp);cases h1;exact run_firstCells_some w sz n _ len cap _ hl (addr_cells h2)
theorem zaf7 (hI:Inv B C) {sz:Nat} (hsz:1≤sz) {x:AVal} {ds:List Dat} {val:Value} (h:srcOf C.ρ sz x=some ds) (hr:RepA C x val):
  ∃cs,FlatD C.F sz ds cs∧(∀w,(Builtin.lenOf val).run P w=.ok ds.length w)∧
   ∀n,n≤ds.length→∀w,(∀ad,w.cell? ad=C.w.cell? ad)→(Builtin.firstCells sz n val).run P w=.ok (cs.take (n*sz)).toArray w:=by
 unfold srcOf at h;split at h
 ·rename_i s;split at h
  ·rename_i h1;subst h1;simp only[Option.some.injEq]at h;subst h;rw[rep_str hr]
   have hflat:∀(s:List UInt8),FlatD C.F 1 (s.map fun b=>Dat.int .u8 b.toNat) (s.map fun b=>Value.int .u8 b.toNat):=by
    intro s
    induction s with
    |nil=>rfl
    |cons b r ih=>exact⟨[_],_,rfl,rfl,by simp[RepD],ih⟩
   refine⟨_,hflat s,fun w=>by simp only[Builtin.lenOf,List.length_map];rfl,fun n hn w _=>?_⟩;simp only[Builtin.firstCells]
   have e:(((ByteArray.mk s.toArray).extract 0 n).data.map fun b=>Value.int .u8 b.toNat)=((s.map fun b=>Value.int .u8 b.toNat).take (n*1)).toArray:=by
    rw[extract_mk];simp[List.map_take]
   rw[e];rfl
  ·cases h
 ·obtain⟨p,cap,cs,h1,h2,h3⟩:=elemsOf_rep hI h hr;subst h1;refine⟨cs,h2,fun w=>rfl,fun n hn w hw=>?_⟩;have hl:=h2.length;refine zlb7 ?_ ?_
  ·rw[List.length_take,hl];exact Nat.min_eq_left (Nat.mul_le_mul_right _ hn)
  ·intro hp
   have:0<ds.length:=by
    rcases Nat.eq_zero_or_pos ds.length with h|h
    ·rw[h]at hl;simp at hl;simp[hl]at hp
    ·exact h
   obtain⟨b,o,q1,q2⟩:=h3 this;refine⟨b,o,q1,fun j v hj=>?_⟩;rw[hw];rw[List.getElem?_take]at hj;split at hj
   ·exact q2 j v hj
   ·cases hj
theorem zxd7 {w:World} {b:Nat} (n:Nat):∀(o:Nat),(∀j,j<n→∃v,w.cell? ⟨b,o+j,none⟩=some v)→∃cs:List Value,cs.length=n∧∀(j:Nat) (v:Value),cs[j]?=some v→w.cell? ⟨b,o+j,none⟩=some v:=by
 induction n with
 |zero=>intro o _;exact⟨[],rfl,by simp⟩
 |succ n ih=>
  intro o h;obtain⟨v,hv⟩:=h 0 (by omega);obtain⟨cs,h1,h2⟩:=ih (o+1) (fun j hj=>by have:=h (j+1) (by omega);rwa [show o+(j+1)=o+1+j by omega]at this);refine⟨v::cs,by simp[h1],fun j u hj=>?_⟩;cases j with
  |zero=>simp at hj;subst hj;exact hv
  |succ j=>simp at hj;have:=h2 j u hj;rwa [show o+(j+1)=o+1+j by omega]
theorem loadE_rep (hI:Inv B C) {n:Nat} {agg:Bool} {x v:AVal} {val:Value} (hn:1≤n) (h:loadE C.ρ n agg x=some v) (hr:RepA C x val):
  ∃b o,val=.pointer (some ⟨b,o,none⟩)∧
   (agg=true→∃cs:List Value,cs.length=n∧(∀(j:Nat) (u:Value),cs[j]?=some u→C.w.cell? ⟨b,o+j,none⟩=some u)∧RepA C v (.agg cs.toArray))∧
   (agg=false→∃u,C.w.cell? ⟨b,o,none⟩=some u∧RepA C v u):=by
 unfold loadE at h;split at h
 ·rename_i id off;split at h
  ·rename_i cells hρ;split at h
   ·rename_i hb;simp only[RepA]at hr;obtain⟨L,h1,h2⟩:=hr;have hL:L=C.μ id:=by simpa[boxAt,hρ]using h1.symm
    subst hL;obtain⟨o1,o2,o3,o4⟩:=hI.objs id _ hρ;refine⟨_,_,h2,fun e=>?_,fun e=>?_⟩
    ·subst e;simp only[if_true,Option.some.injEq]at h;subst h
     obtain⟨cs,h3,h4⟩:=zxd7 (w:=C.w) (b:=(C.μ id).b) n ((C.μ id).o+off) (fun j hj=>by
      obtain⟨v,hv,_⟩:=o4 (off+j) cells[off+j] (List.getElem?_eq_getElem (by omega));exact⟨v,by rwa [Nat.add_assoc]⟩)
     have hlen:((cells.drop off).take n).length=n:=by simp;omega
     have hrep:RepL C ((cells.drop off).take n) cs:=by
      refine repL_of (by rw[h3,hlen]) fun i x c hi hc=>?_
      rw[List.getElem?_take]at hi;split at hi
      ·rw[List.getElem?_drop]at hi;obtain⟨v,hv,hx⟩:=o4 _ _ hi;have:=h4 i c hc;rw[Nat.add_assoc,hv]at this;cases this;exact hx
      ·cases hi
     have hleaf:((cells.drop off).take n).all AVal.leaf=true:=by
      rw[List.all_eq_true]at o2 ⊢;exact fun x hx=>o2 x (List.mem_of_mem_drop (List.mem_of_mem_take hx))
     refine⟨cs,h3,h4,?_⟩;simp only[RepA];refine⟨_,rfl,hrep,hleaf,fun c hc=>?_⟩;have hc':c∈cs:=by simpa using hc
     obtain⟨i,hi⟩:=List.getElem?_of_mem hc'
     obtain⟨x,hx⟩:∃x,((cells.drop off).take n)[i]?=some x:=by
      have:=(List.getElem?_eq_some_iff.1 hi).1;exact⟨_,List.getElem?_eq_getElem (by rw[hlen];omega)⟩
     obtain⟨c',e1,e2⟩:=hrep.get hx;rw[hi]at e1;cases e1;rw[List.all_eq_true]at hleaf;exact (e2.leaf (hleaf x (List.mem_of_getElem? hx))).1
    ·subst e;simp only[Bool.false_eq_true,if_false]at h;obtain⟨u,hu,hx⟩:=o4 _ _ h;exact⟨u,hu,hx⟩
   ·cases h
  ·cases h
 ·rename_i id ver i off;split at h
  ·rename_i sz ver' fz es hρ;split at h
   ·rename_i hv;subst hv;cases e:es[i]? with
    |none=>simp[e]at h
    |some d=>
     simp only[e]at h;split at h
     ·rename_i hb;simp only[RepA]at hr;obtain⟨A,p,h1,h2,h3,h4⟩:=hr;have hA:A=⟨ver,sz,es.length,C.μ id⟩:=by simpa[arrAt,hρ]using h1.symm
      subst hA;obtain⟨g1,g2⟩:=h4 rfl;subst g2;obtain⟨c,c1,c2,c3⟩:=hI.elem hρ e;have hagg:=c2.cellsAgg;have hlen:=hagg.length;refine⟨_,_,h3,fun e'=>?_,fun e'=>?_⟩
      ·subst e';simp only[if_true,Option.some.injEq]at h;subst h;refine⟨(c.drop off).take n,by simp;omega,fun j u hj=>?_,?_⟩
       ·rw[List.getElem?_take]at hj;split at hj
        ·rw[List.getElem?_drop]at hj;have:=c3 _ _ hj
         rwa [←Nat.add_assoc]at this
        ·cases hj
       ·simp only[RepA];exact repV_agg (by simpa using (hagg.drop off).take n)
      ·subst e';simp only[Bool.false_eq_true,if_false]at h;cases e2:d.cells[off]? with
       |none=>rw[e2]at h;cases h
       |some dd=>
        rw[e2]at h;simp only[Option.map_some,Option.some.injEq]at h;subst h;obtain⟨u,u1,u2,u3⟩:=hagg.get e2;exact⟨u,c3 _ _ u1,zhb7 u2 u3⟩
     ·cases h
   ·cases h
  ·rename_i sz ver' es hρ;split at h
   ·rename_i hv;subst hv;cases e:es[i]? with
    |none=>simp[e]at h
    |some row=>
     simp only[e]at h;split at h
     ·rename_i hb;simp only[RepA]at hr;obtain⟨A,p,h1,h2,h3,h4⟩:=hr;have hA:A=⟨ver,sz,es.length,C.μ id⟩:=by simpa[arrAt,hρ]using h1.symm
      subst hA;obtain⟨g1,g2⟩:=h4 rfl;subst g2;obtain⟨o1,o2,o3,o4,o5⟩:=hI.objs id _ hρ;have o5:=o5 i row e;have o3:=(o3 row (List.mem_of_getElem? e)).2;refine⟨_,_,h3,fun e'=>?_,fun e'=>?_⟩
      ·subst e';simp only[if_true,Option.some.injEq]at h;subst h
       obtain⟨cs,h3,h4⟩:=zxd7 (w:=C.w) (b:=(C.μ id).b) n ((C.μ id).o+i*sz+off) (fun j hj=>by
        obtain⟨v,hv,_⟩:=o5 (off+j) row[off+j] (List.getElem?_eq_getElem (by omega));exact⟨v,by rwa [Nat.add_assoc]⟩)
       have hlen:((row.drop off).take n).length=n:=by simp;omega
       have hrep:RepL C ((row.drop off).take n) cs:=by
        refine repL_of (by rw[h3,hlen]) fun i x c hi hc=>?_
        rw[List.getElem?_take]at hi;split at hi
        ·rw[List.getElem?_drop]at hi;obtain⟨v,hv,hx⟩:=o5 _ _ hi;have:=h4 i c hc;rw[Nat.add_assoc,hv]at this;cases this;exact hx
        ·cases hi
       have hleaf:((row.drop off).take n).all AVal.leaf=true:=by
        rw[List.all_eq_true]at o3 ⊢;exact fun x hx=>o3 x (List.mem_of_mem_drop (List.mem_of_mem_take hx))
       refine⟨cs,h3,h4,?_⟩;simp only[RepA];refine⟨_,rfl,hrep,hleaf,fun c hc=>?_⟩;have hc':c∈cs:=by simpa using hc
       obtain⟨i,hi⟩:=List.getElem?_of_mem hc'
       obtain⟨x,hx⟩:∃x,((row.drop off).take n)[i]?=some x:=by
        have:=(List.getElem?_eq_some_iff.1 hi).1;exact⟨_,List.getElem?_eq_getElem (by rw[hlen];omega)⟩
       obtain⟨c',e1,e2⟩:=hrep.get hx;rw[hi]at e1;cases e1;rw[List.all_eq_true]at hleaf;exact (e2.leaf (hleaf x (List.mem_of_getElem? hx))).1
      ·subst e';simp only[Bool.false_eq_true,if_false]at h;obtain⟨u,hu,hx⟩:=o5 _ _ h;exact⟨u,hu,hx⟩
     ·cases h
   ·cases h
  ·cases h
 ·rename_i l;split at h
  ·rename_i hb;simp only[RepA]at hr;obtain⟨b,o,cs,h1,h2,h3⟩:=hr;refine⟨b,o,h1,fun e=>?_,fun e=>?_⟩
   ·subst e;simp only[if_true,Option.some.injEq]at h;subst h;have:=h2.length;refine⟨cs.take n,by simp;omega,fun j u hj=>?_,?_⟩
    ·rw[List.getElem?_take]at hj;split at hj
     ·exact hI.Fw _ _ _ (h3 _ _ hj)
     ·cases hj
    ·simp only[RepA];exact repV_agg (by simpa using h2.take n)
   ·subst e;simp only[Bool.false_eq_true,if_false]at h;cases e2:l[0]? with
    |none=>simp[e2]at h
    |some dd=>
     simp[e2]at h;subst h;obtain⟨u,u1,u2,u3⟩:=h2.get e2;exact⟨u,by simpa using hI.Fw _ _ _ (h3 _ _ u1),zhb7 u2 u3⟩
  ·cases h
 ·cases h
theorem op_ld (hI:Inv B C) (hE:RepE C g a) {t:TypeId} {x:Operand} {q:TI} {ax:AX} {v:AVal} (ho:o.op=.load t x) (hx:cX x=some ax) (hq:tI P t=some q) (hq1:1≤q.size)
  (h:loadE C.ρ q.size q.agg (evX g ax)=some v):Does P o a C.w (Owes B C v []):=by
 obtain⟨b,of,h1,h2,h3⟩:=loadE_rep hI hq1 h (zea7 hE hx);cases e:q.agg
 ·obtain⟨u,hu,hr⟩:=h3 e;refine zfa7 hI ?_ hr;simp[execOp,ho,Instr.loadAt,h1,Instr.sureAddr,loadVar,run_isAgg hq,e,hu]
 ·obtain⟨cs,c1,c2,hr⟩:=h2 e;refine zfa7 hI ?_ hr;have:=run_loadCells_list (P:=P) C.w ⟨b,of,none⟩ cs (addr_cells c2);rw[c1]at this;simp[execOp,ho,Instr.loadAt,h1,Instr.sureAddr,loadVar,run_isAgg hq,e,run_sizeOf hq,this]
end
end Go.Am

namespace Go.Am
variable [Glob]
theorem fold_set (off:Nat):∀(c:List Value) (k:Nat) (cells:Array Value),off+k+c.length≤cells.size→
  ((c.zipIdx k).foldl (fun cs p=>cs.setIfInBounds (off+p.2) p.1) cells).toList=cells.toList.take (off+k)++c++cells.toList.drop (off+k+c.length)
 |[],k,cells,h=>by simp
 |x::r,k,cells,h=>by
  simp only[List.zipIdx_cons,List.foldl_cons];simp only[List.length_cons]at h;rw[fold_set off r (k+1) _ (by simp;omega)];have hlt:off+k<cells.toList.length:=by simp;omega
  simp only[Array.toList_setIfInBounds]
  have e1:(cells.toList.set (off+k) x).take (off+(k+1))=cells.toList.take (off+k)++[x]:=by
   rw[show off+(k+1)=off+k+1 by omega,List.take_add_one,List.take_set_of_le (Nat.le_refl _),List.getElem?_set_self hlt];rfl
  have e2:(cells.toList.set (off+k) x).drop (off+(k+1)+r.length)=cells.toList.drop (off+k+(r.length+1)):=by
   rw[List.drop_set_of_lt (by omega)]
   congr 1;omega
  rw[e1,e2];simp
theorem fill_step (place:Nat→Option (Nat×Nat)) (cells:Array Value) (i:Nat) (v:Value) (rest:List (Nat×Value)) {off size:Nat} (hp:place i=some (off,size))
  (hs:v.cells.size=size) (hf:off+size≤cells.size):
  ∃cells',Instr.fill place cells ((i,v)::rest)=Instr.fill place cells' rest∧cells'.toList=splice cells.toList off v.cells.toList:=by
 refine⟨v.cells.zipIdx.foldl (fun cs (p:Value×Nat)=>cs.setIfInBounds (off+p.2) p.1) cells,?_,?_⟩
 ·simp only[Instr.fill,hp,hs];rw[if_neg];simp only[ne_eq,not_true_eq_false,decide_false,Bool.false_or,decide_eq_true_eq];omega
 ·have:=fold_set off v.cells.toList 0 cells (by simp;omega);rw[←Array.foldl_toList,Array.toList_zipIdx,this];simp[splice]
theorem length_splice {α:Type} (l:List α) (off:Nat) (v:List α) (h:off+v.length≤l.length):(splice l off v).length=l.length:=by
 simp only[splice,List.length_append,List.length_take,List.length_drop];omega
theorem fill_row (size:Nat):∀(vs:List Value) (k:Nat) (cells:Array Value),(∀v∈vs,v.cells.size=size)→cells.size=(k+vs.length)*size→
  ∃out,Instr.fill (fun i=>some (i*size,size)) cells ((List.range' k vs.length).zip vs)=some out∧out.toList=cells.toList.take (k*size)++(vs.map (·.cells.toList)).flatten
 |[],k,cells,_,hs=>by
  refine⟨cells,by simp[Instr.fill],?_⟩;simp only[List.length_nil,Nat.add_zero]at hs;rw[List.take_of_length_le (by simp;omega)];simp
 |v::r,k,cells,h1,hs=>by
  simp only[List.length_cons,List.range'_succ,List.zip_cons_cons];have hv:=h1 v (by simp);have hmul:(k+(r.length+1))*size=k*size+size+r.length*size:=by simp only[Nat.add_mul];omega
  obtain⟨cells',e1,e2⟩:=fill_step (fun i=>some (i*size,size)) cells k v ((List.range' (k+1) r.length).zip r) rfl hv (by rw[hs,List.length_cons,hmul];omega);rw[e1]
  have hsz:cells'.size=cells.size:=by
   have:=congrArg List.length e2;rw[length_splice _ _ _ (by simp;rw[hs,List.length_cons,hmul];omega)]at this;simpa using this
  obtain⟨out,e3,e4⟩:=fill_row size r (k+1) cells' (fun v hv=>h1 v (by simp[hv])) (by rw[hsz,hs,List.length_cons];congr 1;omega);refine⟨out,e3,?_⟩;rw[e4,e2]
  have hl:(cells.toList.take (k*size)++v.cells.toList).length=(k+1)*size:=by
   simp only[List.length_append,List.length_take,Array.length_toList,hv];rw[hs,List.length_cons,hmul,Nat.add_mul];omega
  simp only[splice];rw[List.take_append_of_le_length (by rw[hl];exact Nat.le_refl _),←hl,List.take_length];simp
theorem zeros_flat (z:Array Value):∀(n:Nat),((Array.range (n*z.size)).map (fun i=>z[i % z.size]!)).toList=(List.replicate n z.toList).flatten
 |0=>by simp
 |n+1=>by
  have ih:=zeros_flat z n;simp only[Array.toList_map,Array.toList_range]at ih ⊢;have e:(n+1)*z.size=n*z.size+z.size:=by rw[Nat.add_mul];omega
  rw[e,List.range_add,List.map_append,ih]
  have e2:(List.range z.size).map ((fun i=>z[i % z.size]!)∘fun x=>n*z.size+x)=z.toList:=by
   apply List.ext_getElem
   ·simp
   ·intro i h1 h2;simp only[List.length_map,List.length_range]at h1;have:(n*z.size+i) % z.size=i:=by rw[Nat.mul_comm,Nat.mul_add_mod];exact Nat.mod_eq_of_lt h1
    simp[this,h1]
  rw[List.map_map,e2]
  have:∀(n:Nat),(List.replicate (n+1) z.toList).flatten=(List.replicate n z.toList).flatten++z.toList:=by
   intro n;rw[List.replicate_succ'];simp
  rw[this]
theorem tI_zero {P:Program} {t:TypeId} {q:TI} {z:List AVal} (h:tI P t=some q) (hz:q.zero=some z):
  ∃v:Value,(∀w,(zeroValue t).run P w=.ok v w)∧zla7 (v.cells.toList.map cst)=some z:=by
 obtain⟨i,d,h1,_,_,_,_,h6⟩:=tI_info h;rw[hz]at h6;cases e:i.zero with
 |none=>simp[e]at h6
 |some v=>
  rw[e]at h6;refine⟨v,fun w=>by simp[zeroValue,run_typeInfo h1,e],h6.symm⟩
theorem tI_zero_some {P:Program} {t:TypeId} {q:TI} (h:tI P t=some q) (hz:q.zero.isSome=true):∃v:Value,∀w,(zeroValue t).run P w=.ok v w:=by
 obtain⟨z,hz'⟩:=Option.isSome_iff_exists.1 hz;obtain⟨v,hv,_⟩:=tI_zero h hz';exact⟨v,hv⟩
theorem zid7 {F:Froz}:∀{zero:List AVal} {ds:List Dat} {fs:List Id} {vs:List Value},zqa7 (fun _=>none) zero=some (ds,fs)→zla7 (vs.map cst)=some zero→AggD F ds vs
 |[],ds,fs,vs,h,hv=>by
  simp[zqa7]at h;cases vs with
  |nil=>rw[h.1];rfl
  |cons v r=>
   exfalso;have:=zic7 hv;simp at this
 |z::zero,ds,fs,vs,h,hv=>by
  have hsp:=zic7 hv;cases vs with
  |nil=>simp at hsp
  |cons v r=>
   simp only[List.map_cons,List.cons.injEq]at hsp
   have hr:zla7 (r.map cst)=some zero:=by
    rw[hsp.2];clear h hv hsp
    induction zero with
    |nil=>rfl
    |cons a b ih=>simp[zla7,ih]
   simp only[zqa7]at h;cases e1:zpb7 (fun _=>none) z with
   |none=>simp[e1]at h
   |some p=>
    cases e2:zqa7 (fun _=>none) zero with
    |none=>simp[e1,e2]at h
    |some q=>
     simp only[e1,e2]at h;split at h
     ·cases h
     ·rename_i hagg;simp only[Option.some.injEq,Prod.mk.injEq]at h;rw[←h.1];refine⟨v,r,rfl,by simpa using hagg,?_,zid7 e2 hr⟩;have hz:=hsp.1;unfold cst at hz;split at hz<;>simp at hz<;>subst hz<;>simp[zpb7]at e1<;>rw[←e1]<;>simp[RepD]
theorem zeroDat_rep {F:Froz} {zero:List AVal} {z:Dat} {vs:List Value} (h:zrc7 zero=some z) (hv:zla7 (vs.map cst)=some zero):RepD F z vs:=by
 unfold zrc7 at h;split at h
 ·rename_i d;split at h
  ·cases h
  ·rename_i hd;simp only[Option.some.injEq]at h;subst h;have hd':d.isAgg=false:=by simpa using hd
   have:=zid7 (F:=F) (zero:=[.dat d]) (ds:=[d]) (fs:=[]) (by simp[zqa7,zpb7,hd']) hv;simp only[AggD]at this;obtain⟨c,cs',rfl,_,h3,h4⟩:=this;subst h4;exact h3
 ·simp only[Option.some.injEq]at h;subst h;have:=zid7 (F:=F) (zero:=[.nils]) (ds:=[.sl []]) (fs:=[]) (by simp[zqa7,zpb7]) hv;simp only[AggD]at this;obtain⟨c,cs',rfl,_,h3,h4⟩:=this;subst h4;exact h3
 ·split at h
  ·rename_i ds fs hds;simp only[Option.some.injEq]at h;subst h;simp only[RepD];exact zid7 hds hv
  ·cases h
section
variable {P:Program} {o:Oper} {a:Act} {B:Base} {C:Ctx} {g:Nat→AVal}
theorem Inv.freeze1 (hI:Inv B C) {id:Id} {sz ver:Nat} {fz:Bool} {es:List Dat} (h:C.ρ id=some (.arr sz ver fz es)):
  ∃C':Ctx,C'.w=C.w∧C'.μ=C.μ∧C'.ρ=updL C.ρ [(id,.arr sz ver true es)]∧Inv B C'∧Grow C C'∧RowD C'.F es (C.μ id).b (C.μ id).o sz:=by
 have hρ':∀(F:Froz),updL C.ρ [(id,.arr sz ver true es)]=fun j=>if id=j then some (.arr sz ver true es) else C.ρ j:=fun _=>rfl
 cases fz with
 |true=>
  have hsame:updL C.ρ [(id,.arr sz ver true es)]=C.ρ:=by
   funext j;simp only[updL];split
   ·rename_i e;subst e;exact h.symm
   ·rfl
  exact⟨C,rfl,rfl,hsame.symm,hI,Grow.refl C,(hI.objs id _ h).2.2.2 rfl⟩
 |false=>
  obtain⟨o1,⟨cap,o2,o2'⟩,o3,o4⟩:=hI.objs id _ h;obtain⟨hown,hel⟩:=o3 rfl
  let T:Cells:=fun b o=>b=(C.μ id).b∧∃j,j<es.length*sz∧o=(C.μ id).o+j
  let F':Froz:=fun b o=>if b=(C.μ id).b∧(C.μ id).o≤o∧o<(C.μ id).o+es.length*sz then C.w.cell? ⟨b,o,none⟩ else C.F b o
  let C':Ctx:={ w:=C.w,F:=F',μ:=C.μ,ρ:=updL C.ρ [(id,.arr sz ver true es)] }
  have hle:es.length*sz≤(C.μ id).n:=by rw[o2];exact Nat.mul_le_mul_right _ o2'
  have hF:C.F.le F':=by
   intro b o v hv;simp only[F'];split
   ·rename_i hc;obtain⟨rfl,q1,q2⟩:=hc;have:=(hown (o-(C.μ id).o) (by omega)).2.2;rw[show (C.μ id).o+(o-(C.μ id).o)=o by omega]at this;rw[this]at hv;cases hv
   ·exact hv
  have hrow:RowD F' es (C.μ id).b (C.μ id).o sz:=by
   refine rowD_of fun i d hd=>?_
   obtain⟨c,c1,c2,c3⟩:=hel i d hd;refine⟨c,c1,RepD.mono hF _ _ c2,fun j v hj=>?_⟩;have hi:=(List.getElem?_eq_some_iff.1 hd).1;have hj':=(List.getElem?_eq_some_iff.1 hj).1
   have hlt:i*sz+j<es.length*sz:=by
    calc i*sz+j<i*sz+sz:=by omega
     _=(i+1)*sz:=by rw[Nat.add_mul];omega
     _≤es.length*sz:=Nat.mul_le_mul_right _ (by omega)
   have hF':F' (C.μ id).b ((C.μ id).o+i*sz+j)=C.w.cell? ⟨(C.μ id).b,(C.μ id).o+i*sz+j,none⟩:=if_pos ⟨rfl,by omega,by omega⟩;rw[hF'];exact c3 j v hj
  have hg:Grow C C':=by
   refine⟨hF,fun i L _ hb=>?_,fun i A _ ha=>?_,fun i b _ hb=>?_⟩
   ·by_cases e:id=i
    ·subst e;simp only[boxAt,h]at hb;cases hb
    ·simpa[boxAt,C',updL,e]using hb
   ·simp only[arrAt,C',updL]at ha ⊢;by_cases e:id=i
    ·subst e;rw[h]at ha;simp only[Option.some.injEq]at ha;subst ha;exact⟨⟨ver,sz,es.length,C.μ id⟩,by simp,Nat.le_refl _,fun _=>⟨rfl,rfl,Nat.le_refl _⟩⟩
    ·exact⟨A,by simpa[e]using ha,Nat.le_refl _,fun _=>⟨rfl,rfl,Nat.le_refl _⟩⟩
   ·by_cases e:id=i
    ·subst e;simp only[blkAt,h]at hb;cases hb
    ·simpa[blkAt,C',updL,e]using hb
  refine⟨C',rfl,rfl,rfl,?_,hg,hrow⟩;refine hI.step (C':=C') id T ?_ (Kept.refl _ _) ?_ ?_ ?_ hg ?_ ?_ ?_
  ·rintro b o ⟨rfl,j,hj,rfl⟩;exact⟨_,h,rfl,j,by omega,rfl,rfl⟩
  ·intro b o v hv;simp only[C',F']at hv;split at hv
   ·rename_i hc;exact .inr (.inr ⟨hc.1,o-(C.μ id).o,by omega,by omega⟩)
   ·exact .inl hv
  ·intro b o v hv hn;simp only[C',F']at hv;split at hv
   ·exact hv
   ·rw[hn]at hv;cases hv
  ·intro i hi;refine⟨?_,rfl⟩;simp only[C',updL];rw[if_neg (fun e=>hi e.symm)]
  ·intro o' ho';simp only[C',updL,if_true,Option.some.injEq]at ho';subst ho';exact⟨o1,⟨cap,o2,o2'⟩,fun e=>by simp at e,fun _=>hrow⟩
  ·intro o' ho' hw;simp only[C',updL,if_true,Option.some.injEq]at ho';subst ho';simp[Obj.own]at hw
  ·intro x hx;simp[C',updL]at hx
theorem zze7 (ρ:Look) (l l':List (Id×Obj)):updL ρ (l++l')=updL (updL ρ l) l':=by
 induction l generalizing ρ with
 |nil=>rfl
 |cons p r ih=>simp[updL,ih]
theorem frz_upd {ρ:Look} {id:Id} {sz ver:Nat} {fz:Bool} {es:List Dat} (h:ρ id=some (.arr sz ver fz es)):∀(fs:List Id),frz (updL ρ [(id,.arr sz ver true es)]) fs=frz ρ fs
 |[]=>rfl
 |i::r=>by
  simp only[frz,frz_upd h r];simp only[updL];by_cases e:id=i
  ·subst e;simp[h]
  ·simp[e]
theorem Inv.freeze (hI:Inv B C):∀(fs:List Id),∃C':Ctx,C'.w=C.w∧C'.μ=C.μ∧C'.ρ=updL C.ρ (frz C.ρ fs)∧Inv B C'∧Grow C C'∧
  ∀id∈fs,∀sz ver fz es,C.ρ id=some (.arr sz ver fz es)→RowD C'.F es (C.μ id).b (C.μ id).o sz:=by
 intro fs
 induction fs generalizing C with
 |nil=>exact⟨C,rfl,rfl,rfl,hI,Grow.refl C,by simp⟩
 |cons id r ih=>
  have other:(∀sz ver fz es,C.ρ id≠some (.arr sz ver fz es))→∃C':Ctx,C'.w=C.w∧C'.μ=C.μ∧C'.ρ=updL C.ρ (frz C.ρ (id::r))∧Inv B C'∧Grow C C'∧
    ∀i∈id::r,∀sz ver fz es,C.ρ i=some (.arr sz ver fz es)→RowD C'.F es (C.μ i).b (C.μ i).o sz:=by
   intro hno;obtain⟨C',h1,h2,h3,h4,h5,h6⟩:=ih hI;refine⟨C',h1,h2,?_,h4,h5,fun i hi sz ver fz es he=>?_⟩
   ·rw[h3];simp only[frz]
   ·cases hi with
    |head=>exact absurd he (hno _ _ _ _)
    |tail _ hi=>exact h6 i hi sz ver fz es he
  cases e:C.ρ id with
  |none=>exact other (by simp[e])
  |some ob=>
   cases ob with
   |box cs=>exact other (by simp[e])
   |rarr v es=>exact other (by simp[e])
   |blk x=>exact other (by simp[e])
   |arr sz ver fz es=>
    obtain⟨C1,a1,a2,a3,a4,a5,a6⟩:=hI.freeze1 e;obtain⟨C2,b1,b2,b3,b4,b5,b6⟩:=ih a4;refine⟨C2,b1.trans a1,b2.trans a2,?_,b4,a5.trans b5,fun i hi sz' ver' fz' es' he=>?_⟩
    ·rw[b3,a3,frz_upd e];simp only[frz,e];rw[show (id,Obj.arr sz ver true es)::frz C.ρ r=[(id,Obj.arr sz ver true es)]++frz C.ρ r from rfl,zze7]
    ·by_cases ei:i=id
     ·subst ei;rw[e]at he;cases he;exact RowD.mono b5.F _ _ _ _ a6
     ·cases hi with
      |head=>exact absurd rfl ei
      |tail _ hi=>
       have:C1.ρ i=some (.arr sz' ver' fz' es'):=by
        rw[a3];simp only[updL];rw[if_neg (fun e=>ei e.symm)];exact he
       have:=b6 i hi sz' ver' fz' es' this
       rwa [a2]at this
theorem zmd7 {C':Ctx} (hg:C.F.le C'.F) {x:AVal} {d:Dat} {fs:List Id} {val:Value}
  (hfz:∀id∈fs,∀sz ver fz es,C.ρ id=some (.arr sz ver fz es)→RowD C'.F es (C.μ id).b (C.μ id).o sz) (h:zpb7 C.ρ x=some (d,fs)) (hr:RepA C x val):RepV C'.F d val:=by
 unfold zpb7 at h;split at h
 ·simp only[Option.some.injEq,Prod.mk.injEq]at h;rw[←h.1];simp only[RepA]at hr;exact hr.mono hg
 ·simp only[Option.some.injEq,Prod.mk.injEq]at h;rw[←h.1];simp only[RepA]at hr;subst hr;exact zhb7 rfl (by simp[RepD])
 ·simp only[Option.some.injEq,Prod.mk.injEq]at h;rw[←h.1];simp only[RepA]at hr;obtain⟨p,c,h1,h2⟩:=hr;subst h1;exact zhb7 rfl (by simp[RepD])
 ·simp only[Option.some.injEq,Prod.mk.injEq]at h;rw[←h.1];simp only[RepA]at hr;obtain⟨p,h1⟩:=hr;subst h1;exact zhb7 rfl (by simp[RepD])
 ·simp only[Option.some.injEq,Prod.mk.injEq]at h;rw[←h.1];simp only[RepA]at hr;exact hr.2.mono hg
 ·rename_i id ver sz off len;split at h
  ·rename_i sz' ver' fz es hρ;split at h
   ·rename_i hc;obtain⟨rfl,rfl,hb⟩:=hc;simp only[Option.some.injEq,Prod.mk.injEq]at h;obtain⟨rfl,rfl⟩:=h;have hrow:=hfz id (by simp) _ _ _ _ hρ;simp only[RepA]at hr;obtain⟨A,p,cap,q1,q2,q3,q4,q5,q6⟩:=hr;have hA:A=⟨ver,sz,es.length,C.μ id⟩:=by simpa[arrAt,hρ]using q1.symm
    subst hA;obtain⟨g1,g2,g3,g4⟩:=q6 rfl;subst q3;refine zhb7 rfl ?_;simp only[RepD];have hlen:((es.drop off).take len).length=len:=by simp;omega
    refine⟨p,cap,by rw[hlen],by omega,?_⟩;by_cases hl:(es.drop off).take len=[]
    ·exact .inl hl
    ·right
     have:0<len:=by
      rcases Nat.eq_zero_or_pos len with h|h
      ·subst h;simp at hl
      ·exact h
     exact⟨_,_,sz,g4 (by omega),(hrow.drop off).take len⟩
   ·cases h
  ·cases h
 ·cases h
theorem decLeaves_rep {C':Ctx} (hg:C.F.le C'.F):∀{l:List AVal} {ds:List Dat} {fs:List Id} {vs:List Value},
  (∀id∈fs,∀sz ver fz es,C.ρ id=some (.arr sz ver fz es)→RowD C'.F es (C.μ id).b (C.μ id).o sz)→zqa7 C.ρ l=some (ds,fs)→RepL C l vs→AggD C'.F ds vs
 |[],ds,fs,vs,hfz,h,hr=>by
  simp[zqa7]at h;rw[h.1];simpa[RepL,AggD]using hr
 |x::l,ds,fs,vs,hfz,h,hr=>by
  simp only[zqa7]at h;cases e1:zpb7 C.ρ x with
  |none=>simp[e1]at h
  |some p=>
   cases e2:zqa7 C.ρ l with
   |none=>simp[e1,e2]at h
   |some q=>
    simp only[e1,e2]at h;split at h
    ·cases h
    ·rename_i hagg;simp only[Option.some.injEq,Prod.mk.injEq]at h;obtain⟨rfl,rfl⟩:=h;simp only[RepL]at hr;obtain⟨c,cs,rfl,h2,h3⟩:=hr;have hd:p.1.isAgg=false:=by simpa using hagg
     refine⟨c,cs,rfl,hd,?_,decLeaves_rep hg (fun id hid=>hfz id (by simp[hid])) e2 h3⟩;exact (zmd7 hg (fun id hid=>hfz id (by simp[hid])) e1 h2).cell hd
theorem dec_rep {C':Ctx} (hg:C.F.le C'.F) {x:AVal} {d:Dat} {fs:List Id} {val:Value}
  (hfz:∀id∈fs,∀sz ver fz es,C.ρ id=some (.arr sz ver fz es)→RowD C'.F es (C.μ id).b (C.μ id).o sz) (h:dec C.ρ x=some (d,fs)) (hr:RepA C x val):RepV C'.F d val:=by
 unfold dec at h;split at h
 ·rename_i l;split at h
  ·rename_i ds fs' hds;simp only[Option.some.injEq,Prod.mk.injEq]at h;obtain⟨rfl,rfl⟩:=h;simp only[RepA]at hr;obtain⟨cs,rfl,h1,h2,h3⟩:=hr;exact repV_agg (decLeaves_rep hg hfz hds h1)
  ·cases h
 ·exact zmd7 hg hfz h hr
theorem decAll_rep {C':Ctx} (hg:C.F.le C'.F) {sz:Nat}:∀{l:List AVal} {ds:List Dat} {fs:List Id} {vs:List Value},
  (∀id∈fs,∀sz ver fz es,C.ρ id=some (.arr sz ver fz es)→RowD C'.F es (C.μ id).b (C.μ id).o sz)→decAll C.ρ l=some (ds,fs)→RepL C l vs→ds.all (fun d=>d.width==sz)=true→
  FlatD C'.F sz ds (vs.map (·.cells.toList)).flatten∧(∀v∈vs,v.cells.size=sz)∧ds.length=vs.length
 |[],ds,fs,vs,hfz,h,hr,hw=>by
  simp[decAll]at h;simp only[RepL]at hr;subst hr;rw[h.1];simp[FlatD]
 |x::l,ds,fs,vs,hfz,h,hr,hw=>by
  simp only[decAll]at h;cases e1:dec C.ρ x with
  |none=>simp[e1]at h
  |some p=>
   cases e2:decAll C.ρ l with
   |none=>simp[e1,e2]at h
   |some q=>
    simp only[e1,e2,Option.some.injEq,Prod.mk.injEq]at h;obtain⟨rfl,rfl⟩:=h;simp only[RepL]at hr;obtain⟨c,cs,rfl,h2,h3⟩:=hr;simp only[List.all_cons,Bool.and_eq_true,beq_iff_eq]at hw;have hv:=dec_rep hg (fun id hid=>hfz id (by simp[hid])) e1 h2;obtain⟨i1,i2,i3⟩:=decAll_rep hg (fun id hid=>hfz id (by simp[hid])) e2 h3 hw.2;have hc:c.cells.toList.length=sz:=by rw[hv.1.length];exact hw.1
    refine⟨?_,?_,by simp[i3]⟩
    ·simp only[List.map_cons,List.flatten_cons,FlatD];exact⟨_,_,rfl,hc,hv.1,i1⟩
    ·intro v hv';cases hv' with
     |head=>simpa using hc
     |tail _ hv'=>exact i2 v hv'
end
end Go.Am
