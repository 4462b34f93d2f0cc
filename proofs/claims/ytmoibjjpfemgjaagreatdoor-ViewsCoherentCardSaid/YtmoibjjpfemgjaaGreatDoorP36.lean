/- Parts of the proofs of the statement, joined and made short: ZL1 XTb YC YTbl. -/
import Derived.Test.YtmoibjjpfemgjaaGreatDoorP35
import Derived.Test.YtmoibjjpfemgjaaGreatDoorP29
import Derived.Test.YtmoibjjpfemgjaaGreatDoorP13
import Derived.Test.YtmoibjjpfemgjaaGreatDoorP26
import Derived.Test.YtmoibjjpfemgjaaGreatDoorP21
import Derived.Test.YtmoibjjpfemgjaaGreatDoorP22
import Derived.Test.YtmoibjjpfemgjaaGreatDoorP27
import Derived.Test.YtmoibjjpfemgjaaGreatDoorP20
set_option linter.unusedVariables false
set_option linter.unusedSimpArgs false
set_option linter.unusedSectionVars false
namespace Go.Am
open Go.Proofs Go.Sort Go.Shelf
theorem setCells_map (b:Nat):∀(vs:List Value) (o:Nat) (w:World),w.setCells b o vs=mapBlock w b (putL o vs)
 |[],o,w=>by
  unfold World.setCells mapBlock
  have:(onCells (putL o []))=id:=by
   funext x;cases x<;>rfl
  rw[this]
  have h:w.heap.modify b id=w.heap:=by
   apply Array.ext_getElem?;intro k;rw[Array.getElem?_modify];split
   ·cases w.heap[k]?<;>rfl
   ·rfl
  rw[h]
 |v::r,o,w=>by
  rw[World.setCells,setCell_eq,setCells_map b r (o+1),mapBlock_mapBlock];rfl
theorem setCells_putRow' {α:Type} [Inhabited α] (enc:α→Value) (l:List α) (b o:Nat) (w:World):w.setCells b o (l.map enc)=putRow enc w b o l.toArray:=by
 rw[setCells_map];unfold putRow
 congr 1
 funext c;apply Array.ext_getElem?;intro k;rw[putL_get];unfold putCells;rw[Array.getElem?_mapIdx];by_cases h2:k<c.size
 ·have e:c[k]?=some c[k]:=by simp
  rw[e];simp only[Option.map_some,List.length_map,List.size_toArray,h2,and_true];by_cases h:o≤k∧k<o+l.length
  ·rw[if_pos h,if_pos h,List.getElem?_map];have h3:k-o<l.length:=by omega
   rw[List.getElem?_eq_getElem h3];simp[h3]
  ·rw[if_neg h,if_neg h]
 ·rw[if_neg (by omega)];have e:c[k]?=none:=by simp;omega
  rw[e];rfl
theorem intsD_eq:∀{es:List Dat} {l:List Int},intsD es=some l→es=l.map fun n=>.int .i64 n
 |[],l,h=>by cases h;rfl
 |d::r,l,h=>by
  cases d with
  |int k n=>
   cases k with
   |i64=>
    simp only[intsD]at h;cases hr:intsD r with
    |none=>rw[hr]at h;cases h
    |some m=>
     rw[hr]at h;simp only[Option.map_some,Option.some.injEq]at h;subst h;rw[intsD_eq hr];rfl
   |_=>simp[intsD]at h
  |_=>simp[intsD]at h
theorem sort_ms (l:List Int):l.mergeSort (fun x y=>decide (x≤y))=sortS l:=by
 refine pw_uniq ?_ (sortS_pw l) ((List.mergeSort_perm l _).trans (zpd7 l).symm);have:=List.pairwise_mergeSort (le:=fun x y:Int=>decide (x≤y)) (fun a b c h1 h2=>by simp at *;omega) (fun a b=>by simp;omega) l;exact this.imp fun h=>by simpa using h
theorem keptB (w w':World) (h:RowKit.Below w.heap.size w w') (hf:∀a,a.block<w.heap.size→w'.frozen? a=w.frozen? a) (T:Cells):Kept w w' T:=
 ⟨⟨h.os,h.output,fun i hi=>by rw[h.block i hi];exact (World.keptBut_refl w _).2.2 i hi⟩,hf,h.size⟩
theorem frozen_grow (w:World) (os:Array Go.Obj) {a:Addr} (h:a.block<w.heap.size):(grow w os).frozen? a=w.frozen? a:=by
 unfold World.frozen? grow;simp only;rw[Array.getElem?_append_left h]
theorem flat_ints (F:Froz):∀l:List Int,FlatD F 1 (l.map fun n=>Dat.int .i64 n) (l.map (Value.int .i64))
 |[]=>rfl
 |n::r=>⟨[.int .i64 n],_,rfl,rfl,by simp[RepD],flat_ints F r⟩
theorem sortE_ok:zyd7 Tryz.prog (sortE 236):=by
 intro f args os v os' h;unfold sortE at h;split at h;rotate_left
 ·cases h
 rename_i hf;subst hf;split at h
 ·rename_i ver len ver' es;split at h;rotate_left
  ·cases h
  rename_i l hl;split at h;rotate_left
  ·cases h
  rename_i hc;obtain⟨rfl,rfl,hbd⟩:=hc;simp only[Option.some.injEq,Prod.mk.injEq]at h;obtain⟨rfl,rfl⟩:=h;refine .inl ⟨by decide,by kernel_rfl,?_⟩;intro C vals hρ hG hI hr;have hes:=intsD_eq hl;have hln:es.length=l.length:=by rw[hes,List.length_map]
  have hρ0:C.ρ ((0,0),0,0)=some (.arr 1 ver false es):=by rw[hρ];simp[flat,zpa7,flatR]
  simp only[RepL,RepA]at hr;obtain⟨c,cs',e1,⟨A,p,cap,a1,a2,e2,a4,a5,a6⟩,e3⟩:=hr;subst e3;have hA:A=⟨ver,1,es.length,C.μ ((0,0),0,0)⟩:=by simpa[arrAt,hρ0]using a1.symm
  subst hA;obtain⟨-,-,g3,g4⟩:=a6 rfl;obtain⟨o1,-,o3,-⟩:=hI.objs _ _ hρ0;obtain⟨own,oel⟩:=o3 rfl
  have hvals:vals=#[.slice p es.length cap]:=by
   apply Array.ext';rw[e1,e2]
  rw[hvals];rcases Nat.eq_zero_or_pos es.length with hz|hz
  ·have h0:es=[]:=List.eq_nil_of_length_eq_zero hz;have hl0:l=[]:=List.eq_nil_of_length_eq_zero (by omega);subst h0;subst hl0;refine (AnyM.slices_Sort_int_none TryzL.sort p cap C.w).mono ?_;rintro e w' ⟨rfl,rfl⟩;exact⟨_,C,rfl,rfl,hρ,hI,by simp[RepA,RepL],fun b o v h=>h,fun id L _ h=>h,fun id A _ h=>⟨A,h,Nat.le_refl _,fun _=>⟨rfl,rfl,Nat.le_refl _⟩⟩,fun id b _ h=>h⟩
  ·have hp:=g4 (by omega);subst hp;generalize hL:C.μ ((0,0),0,0)=L at *
   have hcell:∀j (hj:j<l.length),C.w.cell? ⟨L.b,L.o+j,none⟩=some (.int .i64 l[j]):=by
    intro j hj;have hd:es[j]?=some (.int .i64 l[j]):=by rw[hes];simp[hj]
    obtain⟨cs,q1,q2,q3⟩:=oel j _ hd;simp only[RepD]at q2;subst q2;have:=q3 0 _ rfl;simpa using this
   have hH:Holds (Value.int .i64) C.w (L.b) (L.o+0*1) l.toArray:=by
    intro j hj;have hj':j<l.length:=by simpa using hj
    have h1:=hcell j hj';obtain⟨-,h2,-⟩:=own j (by rw[g3];omega);refine⟨?_,by simpa using h2 (L.o+j)⟩;rw[show L.o+0*1+j=L.o+j by omega,h1];simp[hj']
   have hblk:L.b<C.w.heap.size:=by
    have:=World.block_lt_of_cell? _ _ (hcell 0 (by omega));simpa using this
   rw[hln];refine (AnyM.slices_Sort_int TryzL.sort L.b (L.o+0*1) cap l C.w hH hblk (by omega)).mono ?_;rintro e w' ⟨rfl,n,gs,rfl⟩;have hft:=flat_ints C.F (sortS l);obtain⟨hfit,hI1,hG1⟩:=arr_write hI hρ0 hft (off:=0) (by simp[(zpd7 l).length_eq];omega);rw[hL]at hI1 hG1;have hw:C.w.setCells L.b (L.o+0*1) ((sortS l).map (Value.int .i64))=putRow (Value.int .i64) C.w L.b (L.o+0*1) (sortS l).toArray:=setCells_putRow' _ _ _ _ _;rw[hw]at hI1 hG1;rw[sort_ms];generalize hw1:putRow (Value.int .i64) C.w L.b (L.o+0*1) (sortS l).toArray=w1 at *
   have hw2:grow (putRow (Value.int .i64) (Go.Sort.ahead C.w n) L.b (L.o+0*1) (sortS l).toArray) gs=grow (Go.Sort.ahead w1 n) gs:=by rw[←hw1];rfl
   rw[hw2]
   have hk:Kept w1 (grow (Go.Sort.ahead w1 n) gs) (fun _ _=>False):=keptB w1 (grow (Go.Sort.ahead w1 n) gs) ⟨rfl,rfl,rfl,by simp[grow,Go.Sort.ahead],fun k hk=>by
    show ((Go.Sort.ahead w1 n).heap++gs)[k]?=w1.heap[k]?
    rw[Array.getElem?_append_left (by simpa[Go.Sort.ahead]using hk)];rfl⟩ (fun a ha=>by rw[frozen_grow (Go.Sort.ahead w1 n) gs (by simpa[Go.Sort.ahead]using ha)];rfl) _
   obtain⟨hI2,hG2⟩:=hI1.plain (C':={ w:=grow (Go.Sort.ahead w1 n) gs,F:=C.F,μ:=C.μ,ρ:=updL C.ρ [(((0,0),0,0),.arr 1 ver false (splice es 0 ((sortS l).map fun n=>Dat.int .i64 n)))] }) hk (fun _ _ _ h=>h) (fun b o v h=>.inl h) (fun b o v h e=>by simp only at h e;rw[e]at h;cases h) rfl rfl;have hG:=hG1.trans hG2;refine⟨_,_,rfl,rfl,?_,hI2,by simp[RepA,RepL],hG.F,fun id L _ h=>hG.box id L trivial h,fun id A _ h=>hG.arr id A trivial h,fun id b _ h=>hG.blk id b trivial h⟩
   have hsp:splice es 0 ((sortS l).map fun n=>Dat.int .i64 n)=(sortS l).map fun n=>Dat.int .i64 n:=by
    unfold splice;rw[List.take_zero,List.nil_append,List.length_map,(zpd7 l).length_eq,List.drop_eq_nil_of_le (by omega),List.append_nil]
   rw[hsp,hρ];funext ⟨⟨a,b⟩,c,d⟩;simp only[updL,flat,zpa7];by_cases ha:a=0
   ·subst ha;cases b with
    |zero=>
     simp only[if_true,List.getElem?_cons_zero,flatR];by_cases hc:c=0∧d=0
     ·obtain⟨rfl,rfl⟩:=hc;simp
     ·rw[if_neg hc,if_neg hc,if_neg];simp only[Prod.mk.injEq,true_and];exact fun e=>hc ⟨e.1.symm,e.2.symm⟩
    |succ b=>simp
   ·rw[if_neg (by simp[ha,Ne.symm ha])];simp[ha]
 ·simp only[Option.some.injEq,Prod.mk.injEq]at h;obtain⟨rfl,rfl⟩:=h;refine .inl ⟨by decide,by kernel_rfl,?_⟩;intro C vals hρ hG hI hr;simp only[RepL,RepA]at hr;obtain⟨c,cs',e1,⟨p,e2⟩,e3⟩:=hr;subst e3
  have hvals:vals=#[.slice p 0 0]:=by
   apply Array.ext';rw[e1,e2]
  rw[hvals];refine (AnyM.slices_Sort_int_none TryzL.sort p 0 C.w).mono ?_;rintro e w' ⟨rfl,rfl⟩;exact⟨_,C,rfl,rfl,hρ,hI,by simp[RepA,RepL],fun b o v h=>h,fun id L _ h=>h,fun id A _ h=>⟨A,h,Nat.le_refl _,fun _=>⟨rfl,rfl,Nat.le_refl _⟩⟩,fun id b _ h=>h⟩
 ·cases h
end Go.Am

set_option maxRecDepth 10000
set_option maxHeartbeats 4000000
namespace Go.Am.E
open Go.Proofs
theorem tfE_ok:∀f fn,tfE f=some fn→∃an keep g,cFun Tryz.prog an keep f=some g∧fn={ g with split:=fn.split }:=by
 intro f fn h;unfold tfE at h;split at h
 ·cases h;exact⟨_,_,_,c6,rfl⟩
 ·cases h;exact⟨_,_,_,c9,rfl⟩
 ·cases h;exact⟨_,_,_,c17,rfl⟩
 ·cases h;exact⟨_,_,_,c21,rfl⟩
 ·cases h;exact⟨_,_,_,c24,rfl⟩
 ·cases h;exact⟨_,_,_,c25,rfl⟩
 ·cases h;exact⟨_,_,_,c26,rfl⟩
 ·cases h;exact⟨_,_,_,c27,rfl⟩
 ·cases h;exact⟨_,_,_,c29,rfl⟩
 ·cases h;exact⟨_,_,_,c32,rfl⟩
 ·cases h;exact⟨_,_,_,c34,rfl⟩
 ·cases h;exact⟨_,_,_,c35,rfl⟩
 ·cases h;exact⟨_,_,_,c36,rfl⟩
 ·cases h;exact⟨_,_,_,c37,rfl⟩
 ·cases h;exact⟨_,_,_,c41,rfl⟩
 ·cases h;exact⟨_,_,_,c42,rfl⟩
 ·cases h;exact⟨_,_,_,c43,rfl⟩
 ·cases h;exact⟨_,_,_,c44,rfl⟩
 ·cases h;exact⟨_,_,_,c45,rfl⟩
 ·cases h;exact⟨_,_,_,c59,rfl⟩
 ·cases h;exact⟨_,_,_,c60,rfl⟩
 ·cases h;exact⟨_,_,_,c61,rfl⟩
 ·cases h;exact⟨_,_,_,c62,rfl⟩
 ·cases h;exact⟨_,_,_,c63,rfl⟩
 ·cases h;exact⟨_,_,_,c64,rfl⟩
 ·cases h;exact⟨_,_,_,c65,rfl⟩
 ·cases h;exact⟨_,_,_,c66,rfl⟩
 ·cases h;exact⟨_,_,_,c67,rfl⟩
 ·cases h;exact⟨_,_,_,c68,rfl⟩
 ·cases h;exact⟨_,_,_,c69,rfl⟩
 ·cases h;exact⟨_,_,_,c70,rfl⟩
 ·cases h;exact⟨_,_,_,c71,rfl⟩
 ·cases h;exact⟨_,_,_,c72,rfl⟩
 ·cases h;exact⟨_,_,_,c73,rfl⟩
 ·cases h;exact⟨_,_,_,c74,rfl⟩
 ·cases h;exact⟨_,_,_,c75,rfl⟩
 ·cases h;exact⟨_,_,_,c76,rfl⟩
 ·cases h;exact⟨_,_,_,c77,rfl⟩
 ·cases h;exact⟨_,_,_,c78,rfl⟩
 ·cases h;exact⟨_,_,_,c79,rfl⟩
 ·cases h;exact⟨_,_,_,c80,rfl⟩
 ·cases h;exact⟨_,_,_,c81,rfl⟩
 ·cases h;exact⟨_,_,_,c90,rfl⟩
 ·cases h;exact⟨_,_,_,c91,rfl⟩
 ·cases h;exact⟨_,_,_,c92,rfl⟩
 ·cases h;exact⟨_,_,_,c93,rfl⟩
 ·cases h;exact⟨_,_,_,c94,rfl⟩
 ·cases h;exact⟨_,_,_,c95,rfl⟩
 ·cases h;exact⟨_,_,_,c96,rfl⟩
 ·cases h;exact⟨_,_,_,c97,rfl⟩
 ·cases h;exact⟨_,_,_,c98,rfl⟩
 ·cases h;exact⟨_,_,_,c99,rfl⟩
 ·cases h;exact⟨_,_,_,c100,rfl⟩
 ·cases h;exact⟨_,_,_,c101,rfl⟩
 ·cases h;exact⟨_,_,_,c102,rfl⟩
 ·cases h;exact⟨_,_,_,c103,rfl⟩
 ·cases h;exact⟨_,_,_,c104,rfl⟩
 ·cases h;exact⟨_,_,_,c105,rfl⟩
 ·cases h;exact⟨_,_,_,c124,rfl⟩
 ·cases h;exact⟨_,_,_,c125,rfl⟩
 ·cases h;exact⟨_,_,_,c126,rfl⟩
 ·cases h;exact⟨_,_,_,c127,rfl⟩
 ·cases h;exact⟨_,_,_,c128,rfl⟩
 ·cases h;exact⟨_,_,_,c129,rfl⟩
 ·cases h;exact⟨_,_,_,c130,rfl⟩
 ·cases h;exact⟨_,_,_,c131,rfl⟩
 ·cases h;exact⟨_,_,_,c132,rfl⟩
 ·cases h;exact⟨_,_,_,c133,rfl⟩
 ·cases h;exact⟨_,_,_,c134,rfl⟩
 ·cases h;exact⟨_,_,_,c135,rfl⟩
 ·cases h;exact⟨_,_,_,c136,rfl⟩
 ·cases h;exact⟨_,_,_,c137,rfl⟩
 ·cases h;exact⟨_,_,_,c138,rfl⟩
 ·cases h;exact⟨_,_,_,c139,rfl⟩
 ·cases h;exact⟨_,_,_,c140,rfl⟩
 ·cases h;exact⟨_,_,_,c141,rfl⟩
 ·cases h;exact⟨_,_,_,c142,rfl⟩
 ·cases h;exact⟨_,_,_,c143,rfl⟩
 ·cases h;exact⟨_,_,_,c144,rfl⟩
 ·cases h;exact⟨_,_,_,c155,rfl⟩
 ·cases h;exact⟨_,_,_,c156,rfl⟩
 ·cases h;exact⟨_,_,_,c157,rfl⟩
 ·cases h;exact⟨_,_,_,c158,rfl⟩
 ·cases h;exact⟨_,_,_,c159,rfl⟩
 ·cases h;exact⟨_,_,_,c160,rfl⟩
 ·cases h;exact⟨_,_,_,c161,rfl⟩
 ·cases h;exact⟨_,_,_,c162,rfl⟩
 ·cases h;exact⟨_,_,_,c163,rfl⟩
 ·cases h;exact⟨_,_,_,c166,rfl⟩
 ·cases h;exact⟨_,_,_,c167,rfl⟩
 ·cases h;exact⟨_,_,_,c168,rfl⟩
 ·cases h;exact⟨_,_,_,c169,rfl⟩
 ·cases h;exact⟨_,_,_,c170,rfl⟩
 ·cases h;exact⟨_,_,_,c171,rfl⟩
 ·cases h;exact⟨_,_,_,c172,rfl⟩
 ·cases h;exact⟨_,_,_,c173,rfl⟩
 ·cases h;exact⟨_,_,_,c174,rfl⟩
 ·cases h;exact⟨_,_,_,c175,rfl⟩
 ·cases h;exact⟨_,_,_,c176,rfl⟩
 ·cases h;exact⟨_,_,_,c177,rfl⟩
 ·cases h;exact⟨_,_,_,c178,rfl⟩
 ·cases h;exact⟨_,_,_,c201,rfl⟩
 ·cases h;exact⟨_,_,_,c202,rfl⟩
 ·cases h;exact⟨_,_,_,c203,rfl⟩
 ·cases h;exact⟨_,_,_,c204,rfl⟩
 ·cases h;exact⟨_,_,_,c205,rfl⟩
 ·cases h;exact⟨_,_,_,c206,rfl⟩
 ·cases h;exact⟨_,_,_,c207,rfl⟩
 ·cases h;exact⟨_,_,_,c208,rfl⟩
 ·cases h;exact⟨_,_,_,c209,rfl⟩
 ·cases h;exact⟨_,_,_,c210,rfl⟩
 ·cases h;exact⟨_,_,_,c211,rfl⟩
 ·cases h;exact⟨_,_,_,c212,rfl⟩
 ·cases h;exact⟨_,_,_,c213,rfl⟩
 ·cases h;exact⟨_,_,_,c214,rfl⟩
 ·cases h;exact⟨_,_,_,c222,rfl⟩
 ·cases h;exact⟨_,_,_,c223,rfl⟩
 ·cases h;exact⟨_,_,_,c224,rfl⟩
 ·cases h;exact⟨_,_,_,c225,rfl⟩
 ·cases h;exact⟨_,_,_,c230,rfl⟩
 ·cases h;exact⟨_,_,_,c233,rfl⟩
 ·cases h;exact⟨_,_,_,c234,rfl⟩
 ·cases h;exact⟨_,_,_,c235,rfl⟩
 ·cases h;exact⟨_,_,_,c237,rfl⟩
 ·cases h;exact⟨_,_,_,c246,rfl⟩
 ·cases h;exact⟨_,_,_,c247,rfl⟩
 ·cases h;exact⟨_,_,_,c248,rfl⟩
 ·cases h;exact⟨_,_,_,c249,rfl⟩
 ·cases h;exact⟨_,_,_,c250,rfl⟩
 ·cases h;exact⟨_,_,_,c251,rfl⟩
 ·cases h;exact⟨_,_,_,c263,rfl⟩
 ·cases h;exact⟨_,_,_,c264,rfl⟩
 ·cases h
theorem lpE_ok:∀k lp,lpE k=some lp→∃an,cLoop Tryz.prog an k=some lp:=by
 intro k lp h;unfold lpE at h;split at h
 ·cases h;exact⟨_,cl138⟩
 ·cases h
theorem lawV_ok:zyd7 Tryz.prog (fun f args os=>match insV f args os with
 |some r=>some r
 |none=>sortE 236 f args os):=by
 intro f args os v os' h;dsimp only at h;split at h
 ·rename_i r hr;cases h;exact insV_ok _ _ _ _ _ hr
 ·exact sortE_ok _ _ _ _ _ h
theorem tblE_ok (h5:EntOK Tryz.prog ⟨11,[],.dat (.bool true)⟩):TblOK Tryz.prog tblE:=
 ⟨fun f fn h=>tfE_ok f fn h,memoL_ok (fun e he=>by rcases List.mem_singleton.1 he with rfl;exact h5) lawV_ok,lpE_ok,fun f fn c st h1 h2 h3=>by simp only[Glob.lps,h1,h2,h3],by kernel_rfl⟩
end Go.Am.E

set_option maxRecDepth 10000
namespace Go.Am
open Go.Proofs
abbrev A (i:Nat) (l d:List Nat) (m:List (Nat×Mk)):RAnn:=⟨i,l,d,m⟩
abbrev A0 (i:Nat) (l:List Nat):RAnn:=⟨i,l,[],[]⟩
def getF {α:Type} [Inhabited α] (o:Option α):α:=o.getD default
theorem getF_eq {α:Type} [Inhabited α] {o:Option α} (h:o.isSome=true):o=some (getF o):=by
 cases o with
 |none=>cases h
 |some a=>rfl
noncomputable def mF (a:Ann) (k:Bool) (f:Nat):AFun:=getF (cFun Tryz.prog a k f)
noncomputable def S (a:Ann) (k:Bool) (f:Nat):Bool:=(cFun Tryz.prog a k f).isSome
theorem mS {a:Ann} {k:Bool} {f:Nat} (h:S a k f=true):cFun Tryz.prog a k f=some (mF a k f):=getF_eq h
def a11:Ann:=[A0 0 [],A0 1 [],A 2 [1] [] [(4,⟨.d,[0]⟩)],A0 3 [1,2,3],A0 4 [],A 5 [1,2] [] [(3,⟨.d,[0]⟩)],A 6 [1,2,4,5,6] [] [(3,⟨.d,[0]⟩)],A0 7 [1,4,5,6,9],A0 8 [],A0 9 [1,4]]
theorem o11:S a11 false 11=true:=by kernel_rfl
def a12:Ann:=[A0 0 [0,1],A0 1 [0,1],A0 2 [],A0 3 [0,1],A0 4 [0,1,5],A0 6 [0,1,5],A0 7 [],A0 5 [0,1,5],A0 8 []]
theorem o12:S a12 false 12=true:=by kernel_rfl
def a13:Ann:=[A0 0 [0,1,2],A0 1 [2,3,4],A0 2 [],A0 3 [2,3,4],A0 4 [3,4,7,8],A0 5 [],A0 6 [3,4,7]]
theorem o13:S a13 false 13=true:=by kernel_rfl
def a15:Ann:=[A0 0 [0,1],A0 1 [2,3],A0 2 [],A0 3 [2,3]]
theorem o15:S a15 false 15=true:=by kernel_rfl
def a33:Ann:=[A0 0 [],A0 1 [0],A0 2 [0,1],A 3 [0,1,2] [] [(2,⟨.o,[]⟩),(7,⟨.o,[]⟩),(10,⟨.o,[]⟩)]]
theorem o33:S a33 true 33=true:=by kernel_rfl
def a40:Ann:=[A0 0 [0,1],A 1 [2,3] [] [(0,⟨.o,[]⟩)],A0 2 [2,3,5],A 3 [2,3,5,9,10,11] [2,3,5,9] [],A0 4 [2,3,5,9,10,11],A0 5 [2,3,5,6,7,9,10,11],A 6 [2,3,5,7,9,10,11] [] [(4,⟨.o,[]⟩)],A0 7 [2,3,5,9,10,11],A0 8 [5]]
theorem o40:S a40 false 40=true:=by kernel_rfl
end Go.Am

set_option maxRecDepth 10000
set_option maxHeartbeats 4000000
namespace Go.Am
open Go.Proofs
noncomputable def tfY:FuncId→Option AFun
 |11=>some (mF a11 false 11)
 |12=>some (mF a12 false 12)
 |13=>some (mF a13 false 13)
 |15=>some (mF a15 false 15)
 |33=>some (mF a33 true 33)
 |40=>some (mF a40 false 40)
 |_=>none
noncomputable def tfX (f:FuncId):Option AFun:=match E.tfE f with
 |some fn=>some fn
 |none=>tfY f
noncomputable def tlX:Nat→Option ALoop
 |138=>some E.lp138
 |_=>none
theorem tfX_ok:∀f fn,tfX f=some fn→∃an keep g,cFun Tryz.prog an keep f=some g∧fn={ g with split:=fn.split }:=by
 intro f fn h;unfold tfX at h;split at h
 ·rename_i fn' h';cases h;exact E.tfE_ok _ _ h'
 unfold tfY at h;split at h
 ·cases h;exact⟨_,_,_,mS o11,rfl⟩
 ·cases h;exact⟨_,_,_,mS o12,rfl⟩
 ·cases h;exact⟨_,_,_,mS o13,rfl⟩
 ·cases h;exact⟨_,_,_,mS o15,rfl⟩
 ·cases h;exact⟨_,_,_,mS o33,rfl⟩
 ·cases h;exact⟨_,_,_,mS o40,rfl⟩
 ·cases h
theorem tlX_ok:∀k lp,tlX k=some lp→∃an,cLoop Tryz.prog an k=some lp:=by
 intro k lp h;unfold tlX at h;split at h
 ·cases h;exact⟨_,E.cl138⟩
 ·cases h
theorem tfX_y:tfX YID=none:=by kernel_rfl
end Go.Am
