/- Parts of the proofs of the statement, joined and made short: ALaw2 AData ATabs. -/
import Derived.Test.YtgaeajfoiigbkaaGreatDoorP27
import Derived.Test.YtgaeajfoiigbkaaGreatDoorP7
import Derived.Test.YtgaeajfoiigbkaaGreatDoorP26
set_option linter.unusedVariables false
set_option linter.unusedSimpArgs false
set_option linter.unusedSectionVars false
namespace Go.Am
open Go.Proofs Go.Maps Go.Sort
theorem insI_perm (x : Int) : ∀ l : List Int,(insI x l).Perm (x :: l)
 | [] => List.Perm.refl _
 | y :: r => by
  simp only [insI]
  split
  ·exact List.Perm.refl _
  ·exact ((insI_perm x r).cons y).trans (List.Perm.swap x y r)
theorem sortI_perm : ∀ l : List Int,(sortI l).Perm l
 | [] => List.Perm.refl _
 | x :: r => (insI_perm x _).trans ((sortI_perm r).cons x)
theorem insI_pw (x : Int) : ∀ l : List Int,l.Pairwise (· ≤ ·) → (insI x l).Pairwise (· ≤ ·)
 | [],_ => by simp [insI]
 | y :: r,h => by
  have h':=List.pairwise_cons.1 h
  simp only [insI]
  split
  ·rename_i hxy
   refine List.pairwise_cons.2 ⟨fun z hz => ?_,h⟩
   rcases List.mem_cons.1 hz with rfl | hz
   ·exact hxy
   ·have:=h'.1 z hz; omega
  ·rename_i hxy
   refine List.pairwise_cons.2 ⟨fun z hz => ?_,insI_pw x r h'.2⟩
   rcases List.mem_cons.1 ((insI_perm x r).mem_iff.1 hz) with rfl | hz
   ·omega
   ·exact h'.1 z hz
theorem sortI_pw : ∀ l : List Int,(sortI l).Pairwise (· ≤ ·)
 | [] => List.Pairwise.nil
 | x :: r => insI_pw x _ (sortI_pw r)
theorem pw_unique : ∀ {a b : List Int},a.Pairwise (· ≤ ·) → b.Pairwise (· ≤ ·) → a.Perm b → a = b
 | [],b,_,_,h => (List.nil_perm.1 h).symm
 | x :: r,[],_,_,h => by cases List.perm_nil.1 h
 | x :: r,y :: s,ha,hb,h => by
  have ha':=List.pairwise_cons.1 ha
  have hb':=List.pairwise_cons.1 hb
  have h1 : x ≤ y:=by
   rcases List.mem_cons.1 (h.mem_iff.2 (List.mem_cons_self ..)) with e | e
   ·omega
   ·exact ha'.1 _ e
  have h2 : y ≤ x:=by
   rcases List.mem_cons.1 (h.mem_iff.1 (List.mem_cons_self ..)) with e | e
   ·omega
   ·exact hb'.1 _ e
  have e : x = y:=by omega
  subst e
  rw [pw_unique ha'.2 hb'.2 (List.perm_cons x |>.1 h)]
theorem mergeSort_sortI {ss ks : List Int} (h : ss.Perm ks) : ss.mergeSort (fun x y => decide (x ≤ y)) = sortI ks:=by
 refine pw_unique ?_ (sortI_pw ks) ((List.mergeSort_perm ss _).trans (h.trans (sortI_perm ks).symm))
 have:=List.pairwise_mergeSort (le:=fun x y : Int => decide (x ≤ y)) (fun a b c h1 h2 => by simp at *; omega) (fun a b => by simp; omega) ss
 exact this.imp fun h => by simpa using h
theorem distI_nodup : ∀ {l : List Int},distI l = true → l.Nodup
 | [],_ => List.nodup_nil
 | x :: r,h => by
  simp only [distI,Bool.and_eq_true,List.all_eq_true] at h
  refine List.nodup_cons.2 ⟨fun hx => ?_,distI_nodup h.2⟩
  have:=h.1 x hx
  simp at this
theorem insert_perm {H : Type} (x : Lit × DataW H) : ∀ l : List (Lit × DataW H),(DataW.insert x l).Perm (x :: l)
 | [] => List.Perm.refl _
 | y :: r => by
  simp only [DataW.insert]
  split
  ·exact List.Perm.refl _
  ·exact ((insert_perm x r).cons y).trans (List.Perm.swap x y r)
theorem zyc7 {H : Type} : ∀ l : List (Lit × DataW H),(l.foldr DataW.insert []).Perm l
 | [] => List.Perm.refl _
 | x :: r => (insert_perm x _).trans ((zyc7 r).cons x)
theorem cells_one {v : Value} {k : IntKind} {n : Int} (h : v.cells.toList = [.int k n]) (h' : zfc7 v = false) : v = .int k n:=by
 cases v <;> simp_all [Value.cells,zfc7]
theorem ents_keys {C : Ctx} : ∀ {es : List (Dat × AVal)} {ens : List MapEntry} {ks : List Int},EntsOK C es ens → keysI es = some ks → ens.map (·.key) = ks.map (fun n => Value.int .i64 n)
 | [],ens,ks,he,hk => by
  simp only [keysI,Option.some.injEq] at hk
  subst hk
  simp only [EntsOK] at he
  subst he
  rfl
 | (d,v) :: r,ens,ks,he,hk => by
  simp only [EntsOK] at he
  obtain ⟨en,ens',rfl,h1,_,h4⟩:=he
  cases d with
  | int k n =>
   cases k with
   | i64 =>
    simp only [keysI] at hk
    split at hk
    ·rename_i l hl
     simp only [Option.some.injEq] at hk
     subst hk
     have:=h1
     simp only [List.map_cons,ents_keys h4 hl,List.cons.injEq,and_true]
     obtain ⟨h5,h6⟩:=h1
     simp only [RepD] at h5
     exact cells_one h5 h6
    ·cases hk
   | _ => simp [keysI] at hk
  | _ => simp [keysI] at hk
theorem Kept.below {w w' : World} (h : RowKit.Below w.heap.size w w') (T : Cells) : Kept w w' T :=
 ⟨⟨h.os,h.output,fun i hi => by rw [h.block i hi]; exact (World.keptBut_refl w _).2.2 i hi⟩,fun a ha => by unfold World.frozen?; rw [h.block _ ha],h.size⟩
theorem row_ints {F : Froz} {g : Nat} : ∀ (l : List Int) (o : Nat),(∀ j n,l[j]? = some n → F g (o + j) = some (.int .i64 n)) → RowD F (l.map fun n => Dat.int .i64 n) g o 1
 | [],_,_ => by simp [RowD]
 | n :: r,o,h => by
  simp only [List.map_cons,RowD]
  refine ⟨⟨[.int .i64 n],rfl,by simp [RepD],fun j v hj => ?_⟩,row_ints r (o + 1) fun j m hj => ?_⟩
  ·cases j with
   | zero => simp at hj; subst hj; exact h 0 n rfl
   | succ j => simp at hj
  ·rw [show o + 1 + j = o + (j + 1) by omega]
   exact h (j + 1) m (by simpa using hj)
theorem lawA_ok : zbe7 Tryz.prog lawA:=by
 intro f args os v os' h
 unfold lawA at h
 split at h
 rotate_left
 ·cases h
 rename_i hf
 subst hf
 split at h
 rotate_left
 ·cases h
 rename_i args' b
 split at h
 rotate_left
 ·cases h
 rename_i m hb
 split at h
 rotate_left
 ·cases h
 rename_i es hm
 split at h
 rotate_left
 ·cases h
 rename_i ks hks
 split at h
 rotate_left
 ·cases h
 rename_i hc
 simp only [Bool.and_eq_true,decide_eq_true_eq,List.all_eq_true] at hc
 obtain ⟨⟨hlen,hdist⟩,hin⟩:=hc
 simp only [Option.some.injEq,Prod.mk.injEq] at h
 obtain ⟨rfl,rfl⟩:=h
 refine .inl ⟨by decide,by kernel_rfl,?_⟩
 intro C vals hρ hG hI hr
 simp only [RepL,RepA] at hr
 obtain ⟨c,cs',e1,⟨cs,e2,hrc⟩,e3⟩:=hr
 obtain ⟨p,cs2,e4,⟨L,hL,e5⟩,e6⟩:=hrc
 subst e3
 subst e6
 have hρb : C.ρ ((0,b),0,0) = some (.box [.bref false ((0,m),0,0)]):=by rw [hρ]; simp [flat,zub7,hb,flatR]
 have hρm : C.ρ ((0,m),0,0) = some (.blk (.map es)):=by rw [hρ]; simp [flat,zub7,hm,flatR]
 have hL' : L = C.μ ((0,b),0,0):=by simpa [boxAt,hρb] using hL.symm
 obtain ⟨_,_,_,hcell⟩:=hI.objs _ _ hρb
 obtain ⟨mv,hmv,hrm⟩:=hcell 0 _ rfl
 rw [← hL'] at hmv
 obtain ⟨rfl,ens,clock,hheap,hborn,hents⟩:=mref_rep hI hρm hrm
 have hkeys:=ents_keys hents hks
 have h26 : Tryz.prog.underlying (TryzL.sorted_ren.t 26) = some (.int .i64):=TryzL.sorted.t26
 have hwf : ∀ n ∈ ks,keyOf Tryz.prog (TryzL.sorted_ren.t 26) (.int .i64 n) = some (.int .i64 n):=by
  intro n hn
  have hn':=hin n hn
  simp only [inI,Bool.and_eq_true,decide_eq_true_eq] at hn'
  refine Maps.keyOf_int_mk h26 ?_
  simp [Lit.wf,IntKind.min,IntKind.max,IntKind.bits,IntKind.signed]
  omega
 let R : Value → Option (DataW Unit × List MemPlace):=fun _ => some (.nil,[])
 have hrd : ∀ x ∈ ens.toList,∃ n ∈ ks,x.key = .int .i64 n ∧ WideElems.rd Tryz.prog (TryzL.sorted_ren.t 26) R x = some (.int .i64 n,.nil):=by
  intro x hx
  have : x.key ∈ ks.map (fun n => Value.int .i64 n):=by rw [← hkeys]; exact List.mem_map.2 ⟨x,hx,rfl⟩
  obtain ⟨n,hn,e⟩:=List.mem_map.1 this
  refine ⟨n,hn,e.symm,?_⟩
  unfold WideElems.rd
  rw [← e,hwf n hn]
  rfl
 have hesz : ens.size = ks.length:=by
  have:=congrArg List.length hkeys
  simpa using this
 have hown : C.w.ownsMap Tryz.prog (TryzL.sorted_ren.t 26) R (C.μ ((0,m),0,0)).b ens.size (.map ((ens.toList.map (WideElems.rg Tryz.prog (TryzL.sorted_ren.t 26) R)).foldr DataW.insert [])):=by
  refine ⟨ens,clock,hheap,⟨?_,⟨hborn.1,hborn.2,?_⟩,?_⟩,Nat.le_refl _,rfl⟩
  ·have : (1000 : Nat) ≤ maxLen:=by decide
   omega
  ·rw [hkeys]
   exact (distI_nodup hdist).map _ (fun a b h e => h (by simpa using e))
  ·intro x hx
   obtain ⟨n,_,_,h⟩:=hrd x hx
   exact ⟨_,h⟩
 have hkp : (intKeys (.map ((ens.toList.map (WideElems.rg Tryz.prog (TryzL.sorted_ren.t 26) R)).foldr DataW.insert []))).Perm ks:=by
  simp only [intKeys]
  refine ((zyc7 _).map _).trans ?_
  have : (ens.toList.map (WideElems.rg Tryz.prog (TryzL.sorted_ren.t 26) R)).map (fun p => Go.intOf p.1) = ks:=by
   have h2 : (ens.toList.map (WideElems.rg Tryz.prog (TryzL.sorted_ren.t 26) R)).map (fun p => Go.intOf p.1) = (ens.toList.map (·.key)).map Go.Proofs.intOf:=by
    rw [List.map_map,List.map_map]
    apply List.map_congr_left
    intro x hx
    obtain ⟨n,_,e,h⟩:=hrd x hx
    simp [WideElems.rg,h,e,Go.intOf,Go.Proofs.intOf]
   rw [h2,hkeys,List.map_map]
   simp [Function.comp_def,Go.Proofs.intOf]
  rw [this]
 have hsize : Maps.size (DataW.map ((ens.toList.map (WideElems.rg Tryz.prog (TryzL.sorted_ren.t 26) R)).foldr DataW.insert [])) ≤ 1000:=by
  rw [Maps.size_eq,(zyc7 _).length_eq]
  simp; omega
 have hBm : L.b < C.w.heap.size:=by have:=World.block_lt_of_cell? _ _ hmv; simpa using this
 have call:=TryzL.call L.b (L.o + 0) _ _ _ C.w hBm hmv hown hsize
 have hvals : vals = #[.func (.func 350) #[] #[.pointer (some ⟨L.b,L.o + 0,none⟩)]]:=by
  apply Array.ext'
  rw [e1,e2]
  have : cs = #[.pointer (some ⟨L.b,L.o + 0,none⟩)]:=by
   apply Array.ext'
   rw [e4,e5]
  rw [this,if_neg (by rw [show BIGF = 2000 by unfold BIGF; rfl]; decide)]
 rw [hvals]
 refine call.mono ?_
 rintro e w' ⟨val,ss,rfl,hp,hrow,hbel⟩
 rw [mergeSort_sortI (hp.trans hkp)] at hrow
 have hlen2 : ss.length = (sortI ks).length:=by rw [(hp.trans hkp).length_eq,(sortI_perm ks).length_eq]
 have hkept:=Kept.below hbel (fun _ _ => False)
 rcases hrow.2 with ⟨rfl,hz⟩ | ⟨g,cap,cur,rfl,hbase,hgb,r1,r2,r3,r4⟩
 ·obtain ⟨p1,p2⟩:=hI.plain (C':={ C with w:=w' }) hkept (fun _ _ _ h => h) (fun b o v h => .inl h) (fun b o v h e => by simp only at h; rw [e] at h; cases h) rfl rfl
  refine ⟨_,{ C with w:=w' },rfl,rfl,hρ,p1,?_,?_⟩
  ·have : sortI ks = []:=List.eq_nil_of_length_eq_zero (by omega)
   rw [this]
   simp [RepA,RepV,RepD,Value.cells,zfc7,Dat.isAgg]
  ·exact ⟨p2.F,fun id L _ h => h,fun id A _ h => ⟨A,h,Nat.le_refl _,fun _ => ⟨rfl,rfl,Nat.le_refl _⟩⟩,fun id b _ h => h⟩
 ·have hnone : ∀ o,C.F g o = none:=by
   intro o
   cases e : C.F g o with
   | none => rfl
   | some v => have:=World.block_lt_of_cell? _ _ (hI.Fw _ _ _ e); simp at this; omega
  obtain ⟨p1,p2⟩:=hI.plain (C':={ C with w:=w',F:=C.F.add g cur.toList }) hkept (fun b o v hv => by
    simp only [Froz.add]
    split
    ·rename_i e; subst e; rw [hnone] at hv; cases hv
    ·exact hv) (fun b o v hv => by
    simp only [Froz.add] at hv
    split at hv
    ·rename_i e; subst e; exact .inr hbase
    ·exact .inl hv) (fun b o v hv e => by
    simp only [Froz.add] at hv
    split at hv
    ·rename_i e'; subst e'; rw [zwb7 hgb]; simpa using hv
    ·rw [e] at hv; cases hv) rfl rfl
  refine ⟨_,{ C with w:=w',F:=C.F.add g cur.toList },rfl,rfl,hρ,p1,?_,?_⟩
  ·simp only [RepA,RepV,RepD]
   refine ⟨⟨_,cap,by simp [Value.cells,hlen2],by simp; omega,.inr ⟨g,0,1,rfl,row_ints _ _ fun j n hj => ?_⟩⟩,rfl⟩
   have h5 : (cur.toList.take (ss.length * 1))[j]? = some (encZ n):=by rw [r4]; simp [hj]
   have hjl : j < (sortI ks).length:=(List.getElem?_eq_some_iff.1 hj).1
   rw [List.getElem?_take] at h5
   rw [if_pos (by omega)] at h5
   simp [Froz.add]
   simpa using h5
  ·exact ⟨p2.F,fun id L _ h => h,fun id A _ h => ⟨A,h,Nat.le_refl _,fun _ => ⟨rfl,rfl,Nat.le_refl _⟩⟩,fun id b _ h => h⟩
end Go.Am

namespace Go.Am
namespace Mm
abbrev i (n : Int) : Dat:=.int .i64 n
abbrev g (l : List Dat) : Dat:=.agg l
abbrev l (l : List Dat) : Dat:=.sl l
def d0 : Dat:=(g [(l [(g [(.str [120]),(i 0)]),(g [(.str [121]),(i 0)])]),(l []),(l []),(l [(g [(.str [102]),(l [(g [(i 9),(i 0),(i 0),(i 0),(i 0),(i 0),(i 0),(i 0)]),(g [(i 9),(i 0),(i 0),(i 0),(i 1),(i 0),(i 0),(i 2)])])]),(g [(.str [103]),(l [(g [(i 8),(i 0),(i 0),(i 0),(i 1),(i 0),(i 0),(i 2)]),(g [(i 8),(i 0),(i 0),(i 0),(i 0),(i 0),(i 0),(i 0)])])])]),(l [(g [(i 0),(i 1)]),(g [(i 1),(i 0)])])])
def d1 : Dat:=(g [(l [(g [(.str [120]),(i 0)]),(g [(.str [121]),(i 0)])]),(l []),(l []),(l [(g [(.str [102]),(l [(g [(i 9),(i 0),(i 0),(i 0),(i 0),(i 0),(i 0),(i 0)]),(g [(i 9),(i 0),(i 0),(i 0),(i 1),(i 0),(i 0),(i 2)])])]),(g [(.str [103]),(l [(g [(i 8),(i 0),(i 0),(i 0),(i 1),(i 0),(i 0),(i 2)]),(g [(i 8),(i 0),(i 0),(i 0),(i 0),(i 0),(i 0),(i 0)])])])]),(l [(g [(i 0),(i 1)]),(g [(i 1),(i 0)])]),(i 1),(i 4)])
def d2 : Dat:=(g [(l [(g [(i 0),(i 0),(i 0),(i 1),(i 0),(i 0),(i 0),(i 0),(i 0),(i 0),(i 0),(i 0),(i 0),(i 0),(i 1),(i 0),(l [])]),(g [(i 1),(i 1),(i 0),(i 0),(i 0),(i 0),(i 0),(i 0),(i 0),(i 0),(i 0),(i 0),(i 0),(i 0),(i 1),(i 0),(l [])])]),(l [(i 0),(i 0)]),(l []),(l []),(l []),(l [])])
def d3 : Dat:=(g [(l [(g [(i 0),(i 0),(i 1),(i 1),(i 0),(i 0),(i 0),(i 0),(i 0),(i 0),(i 0),(i 1),(i 0),(i 0),(i 1),(i 0),(l [])]),(g [(i 1),(i 1),(i 0),(i 0),(i 0),(i 0),(i 0),(i 0),(i 0),(i 0),(i 0),(i 0),(i 0),(i 0),(i 1),(i 0),(l [])])]),(l [(i 1),(i 0)]),(l []),(l []),(l []),(l [])])
def d4 : Dat:=(g [(l [(g [(i 0),(i 0),(i 0),(i 1),(i 0),(i 0),(i 0),(i 0),(i 0),(i 0),(i 0),(i 0),(i 0),(i 0),(i 1),(i 0),(l [])]),(g [(i 1),(i 1),(i 1),(i 0),(i 0),(i 0),(i 0),(i 0),(i 0),(i 0),(i 0),(i 1),(i 0),(i 0),(i 1),(i 0),(l [])])]),(l [(i 0),(i 0)]),(l []),(l []),(l []),(l [])])
def d5 : Dat:=(g [(i 0),(i 0),(i 2),(i 0),(i (-1)),(i (-1)),(i 0),(i 0),(i 1)])
def d6 : Dat:=(g [(l [(g [(i 0),(i 0),(i 2),(i 1),(i 0),(i 0),(i 0),(i 0),(i 0),(i 0),(i 0),(i 2),(i 0),(i 0),(i 2),(i 0),(l [])]),(g [(i 1),(i 1),(i 0),(i 0),(i 0),(i 0),(i 0),(i 0),(i 0),(i 0),(i 0),(i 0),(i 0),(i 0),(i 1),(i 0),(l [])])]),(l [(i 1),(i 1)]),(l []),(l []),(l []),(l [])])
def d7 : Dat:=(g [(l [(g [(i 0),(i 0),(i 2),(i 1),(i 0),(i 0),(i 0),(i 0),(i 0),(i 0),(i 0),(i 2),(i 0),(i 0),(i 2),(i 0),(l [])]),(g [(i 1),(i 1),(i 1),(i 1),(i 0),(i 0),(i 0),(i 0),(i 0),(i 0),(i 0),(i 1),(i 0),(i 0),(i 1),(i 0),(l [])])]),(l [(i 1),(i 1)]),(l []),(l []),(l []),(l [])])
def d8 : Dat:=(g [(l [(g [(i 0),(i 0),(i 1),(i 1),(i 0),(i 0),(i 0),(i 0),(i 0),(i 0),(i 0),(i 1),(i 0),(i 0),(i 1),(i 0),(l [])]),(g [(i 1),(i 1),(i 1),(i 0),(i 0),(i 0),(i 0),(i 0),(i 0),(i 0),(i 0),(i 1),(i 0),(i 0),(i 1),(i 0),(l [])])]),(l [(i 1),(i 0)]),(l []),(l []),(l []),(l [])])
def d9 : Dat:=(g [(l [(g [(i 0),(i 0),(i 2),(i 1),(i 0),(i 0),(i 0),(i 0),(i 0),(i 0),(i 0),(i 2),(i 0),(i 0),(i 2),(i 0),(l [])]),(g [(i 1),(i 1),(i 1),(i 0),(i 0),(i 0),(i 0),(i 0),(i 0),(i 0),(i 0),(i 1),(i 0),(i 0),(i 1),(i 0),(l [])])]),(l [(i 1),(i 1)]),(l []),(l []),(l []),(l [])])
def d10 : Dat:=(g [(i 0),(i 1),(i 2),(i 1),(i (-1)),(i (-1)),(i 2),(i 0),(i 1)])
def d11 : Dat:=(g [(i 1),(i 0),(i 1),(i 1),(i (-1)),(i (-1)),(i 2),(i 0),(i 0)])
def d12 : Dat:=(g [(l [(g [(i 0),(i 0),(i 0),(i 1),(i 0),(i 0),(i 0),(i 0),(i 0),(i 0),(i 0),(i 0),(i 0),(i 0),(i 1),(i 0),(l [])]),(g [(i 1),(i 1),(i 2),(i 0),(i 0),(i 0),(i 0),(i 0),(i 0),(i 0),(i 0),(i 2),(i 0),(i 0),(i 2),(i 0),(l [])])]),(l [(i 0),(i 0)]),(l []),(l []),(l []),(l [])])
def d13 : Dat:=(g [(l [(g [(i 0),(i 0),(i 1),(i 1),(i 0),(i 0),(i 0),(i 0),(i 0),(i 0),(i 0),(i 1),(i 0),(i 0),(i 1),(i 0),(l [])]),(g [(i 1),(i 1),(i 2),(i 0),(i 0),(i 0),(i 0),(i 0),(i 0),(i 0),(i 0),(i 2),(i 0),(i 0),(i 2),(i 0),(l [])])]),(l [(i 1),(i 0)]),(l []),(l []),(l []),(l [])])
def d14 : Dat:=(g [(i 1),(i 1),(i 0),(i 0),(i 0),(i 0),(i 0),(i 0),(i 0),(i 0),(i 0),(i 0),(i 0),(i 0),(i 1),(i 0),(l [])])
def d15 : Dat:=(g [(i 1),(i 1),(i 1),(i 0),(i 0),(i 0),(i 0),(i 0),(i 0),(i 0),(i 0),(i 1),(i 0),(i 0),(i 1),(i 0),(l [])])
def d16 : Dat:=(g [(i 0),(i 0),(i 0),(i 1),(i 0),(i 0),(i 0),(i 0),(i 0),(i 0),(i 0),(i 0),(i 0),(i 0),(i 1),(i 0),(l [])])
def d17 : Dat:=(g [(i 0),(i 0),(i 1),(i 1),(i 0),(i 0),(i 0),(i 0),(i 0),(i 0),(i 0),(i 1),(i 0),(i 0),(i 1),(i 0),(l [])])
def d18 : Dat:=(g [(i 1),(i 1),(i 1),(i 1),(i 0),(i 0),(i 0),(i 0),(i 0),(i 0),(i 0),(i 1),(i 0),(i 0),(i 1),(i 0),(l [])])
def d19 : Dat:=(g [(i 1),(i 1),(i 1),(i 0),(i (-1)),(i (-1)),(i 0),(i 1),(i 0)])
def d20 : Dat:=(g [(i 1),(i 1),(i 1),(i 0),(i (-1)),(i (-1)),(i 0),(i 0),(i 0)])
def d21 : Dat:=(g [(i 0),(i 0),(i 2),(i 1),(i 0),(i 0),(i 0),(i 0),(i 0),(i 0),(i 0),(i 2),(i 0),(i 0),(i 2),(i 0),(l [])])
def d22 : Dat:=(l [(i 0),(i 0),(i 1),(i 1)])
def d23 : Dat:=(l [(i 0),(i 1),(i 0),(i 1)])
def d24 : Dat:=(g [(l [(g [(i 0),(i 0),(i 2),(i 1),(i 0),(i 0),(i 0),(i 0),(i 0),(i 0),(i 0),(i 2),(i 0),(i 0),(i 2),(i 0),(l [])]),(g [(i 1),(i 1),(i 2),(i 1),(i 0),(i 0),(i 0),(i 0),(i 0),(i 0),(i 0),(i 2),(i 0),(i 0),(i 2),(i 0),(l [])])]),(l [(i 1),(i 1)]),(l []),(l []),(l []),(l [])])
def d25 : Dat:=(g [(i 1),(i 0),(i 1),(i 1),(i (-1)),(i (-1)),(i 2),(i 1),(i 0)])
def d26 : Dat:=(g [(i 1),(i 1),(i 2),(i 0),(i 0),(i 0),(i 0),(i 0),(i 0),(i 0),(i 0),(i 2),(i 0),(i 0),(i 2),(i 0),(l [])])
def d27 : Dat:=(g [(l [(g [(i 0),(i 0),(i 2),(i 1),(i 0),(i 0),(i 0),(i 0),(i 0),(i 0),(i 0),(i 2),(i 0),(i 0),(i 2),(i 0),(l [])]),(g [(i 1),(i 1),(i 2),(i 0),(i 0),(i 0),(i 0),(i 0),(i 0),(i 0),(i 0),(i 2),(i 0),(i 0),(i 2),(i 0),(l [])])]),(l [(i 1),(i 1)]),(l []),(l []),(l []),(l [])])
def d28 : Dat:=(l [(g [(i 0),(i 0),(i 2),(i 0),(i (-1)),(i (-1)),(i 0),(i 0),(i 1)]),(g [(i 0),(i 1),(i 2),(i 1),(i (-1)),(i (-1)),(i 2),(i 0),(i 1)]),(g [(i 1),(i 0),(i 1),(i 1),(i (-1)),(i (-1)),(i 2),(i 1),(i 0)]),(g [(i 1),(i 1),(i 1),(i 0),(i (-1)),(i (-1)),(i 0),(i 1),(i 0)])])
def d29 : Dat:=(l [(g [(i 0),(i 0),(i 2),(i 0),(i (-1)),(i (-1)),(i 0),(i 0),(i 1)]),(g [(i 1),(i 0),(i 1),(i 1),(i (-1)),(i (-1)),(i 2),(i 0),(i 0)]),(g [(i 0),(i 1),(i 2),(i 1),(i (-1)),(i (-1)),(i 2),(i 0),(i 1)]),(g [(i 1),(i 1),(i 1),(i 0),(i (-1)),(i (-1)),(i 0),(i 1),(i 0)])])
def d30 : Dat:=(g [(i 1),(i 1),(i 2),(i 1),(i 0),(i 0),(i 0),(i 0),(i 0),(i 0),(i 0),(i 2),(i 0),(i 0),(i 2),(i 0),(l [])])
def d31 : Dat:=(l [(i 1),(i 1),(i 0),(i 0)])
def e1_0 : List Ent:=[
 ⟨136,[d0],(.tup [.dat (i 0),.dat (i (-1)),.dat (i (-1))])⟩,
 ⟨45,[d28],(.dat (l [(g [(i 0),(i 0),(i 2),(i 0),(i (-1)),(i (-1)),(i 0),(i 0),(i 1),(l [(g [(i 0),(i 1)])])]),(g [(i 0),(i 1),(i 2),(i 1),(i (-1)),(i (-1)),(i 2),(i 0),(i 1),(l [(g [(i 0),(i 2)])])]),(g [(i 1),(i 0),(i 1),(i 1),(i (-1)),(i (-1)),(i 2),(i 1),(i 0),(l [(g [(i 0),(i 2)]),(g [(i 1),(i 1)])])]),(g [(i 1),(i 1),(i 1),(i 0),(i (-1)),(i (-1)),(i 0),(i 1),(i 0),(l [(g [(i 0),(i 2)]),(g [(i 1),(i 2)])])])]))⟩]
def e1_1 : List Ent:=[
 ⟨45,[d29],(.dat (l [(g [(i 0),(i 0),(i 2),(i 0),(i (-1)),(i (-1)),(i 0),(i 0),(i 1),(l [(g [(i 0),(i 1)])])]),(g [(i 1),(i 0),(i 1),(i 1),(i (-1)),(i (-1)),(i 2),(i 0),(i 0),(l [(g [(i 1),(i 1)])])]),(g [(i 0),(i 1),(i 2),(i 1),(i (-1)),(i (-1)),(i 2),(i 0),(i 1),(l [(g [(i 0),(i 2)])])]),(g [(i 1),(i 1),(i 1),(i 0),(i (-1)),(i (-1)),(i 0),(i 1),(i 0),(l [(g [(i 1),(i 2)])])])]))⟩,
 ⟨171,[d0,d21],(.tup [.dat (g [(i 0),(i 0),(i 0),(i 0),(i 0),(i 0),(i 0),(i 0)]),.dat (.bool false)])⟩,
 ⟨171,[d0,d30],(.tup [.dat (g [(i 0),(i 0),(i 0),(i 0),(i 0),(i 0),(i 0),(i 0)]),.dat (.bool false)])⟩,
 ⟨322,[d5,d10],(.dat (.bool true))⟩,
 ⟨322,[d5,d25],(.dat (.bool false))⟩,
 ⟨322,[d10,d25],(.dat (.bool true))⟩,
 ⟨322,[d5,d19],(.dat (.bool true))⟩,
 ⟨322,[d10,d19],(.dat (.bool false))⟩,
 ⟨322,[d25,d19],(.dat (.bool true))⟩]
def e1_2 : List Ent:=[
 ⟨322,[d10,d11],(.dat (.bool true))⟩,
 ⟨322,[d5,d11],(.dat (.bool false))⟩,
 ⟨322,[d11,d10],(.dat (.bool true))⟩,
 ⟨322,[d11,d19],(.dat (.bool true))⟩,
 ⟨322,[d5,d20],(.dat (.bool true))⟩,
 ⟨171,[d0,d26],(.tup [.dat (g [(i 0),(i 0),(i 0),(i 0),(i 0),(i 0),(i 0),(i 0)]),.dat (.bool false)])⟩,
 ⟨322,[d11,d20],(.dat (.bool true))⟩,
 ⟨322,[d11,d5],(.dat (.bool false))⟩,
 ⟨322,[d20,d5],(.dat (.bool true))⟩,
 ⟨322,[d20,d10],(.dat (.bool false))⟩,
 ⟨16,[(g [(l []),(l [(i 0)]),(l [])])],(.tup [.dat (l []),.dat (i 1)])⟩]
def e1 : List Ent:=e1_0 ++ e1_1 ++ e1_2
def e2_0 : List Ent:=[
 ⟨202,[d0,(i 4),d16],(.dat (.bool true))⟩,
 ⟨202,[d0,(i 4),d14],(.dat (.bool true))⟩,
 ⟨202,[d0,(i 32),d16],(.dat (.bool true))⟩,
 ⟨256,[d0,(i 4),d16,(i 0)],(.tup [.dat d17,.dat (i 0)])⟩,
 ⟨202,[d0,(i 4),d17],(.dat (.bool true))⟩,
 ⟨202,[d0,(i 32),d17],(.dat (.bool true))⟩,
 ⟨256,[d0,(i 4),d17,(i 0)],(.tup [.dat d21,.dat (i 0)])⟩,
 ⟨202,[d0,(i 4),d21],(.dat (.bool true))⟩,
 ⟨202,[d0,(i 32),d14],(.dat (.bool true))⟩]
def e2_1 : List Ent:=[
 ⟨256,[d0,(i 4),d14,(i 1)],(.tup [.dat d18,.dat (i 0)])⟩,
 ⟨202,[d0,(i 4),d18],(.dat (.bool true))⟩,
 ⟨202,[d0,(i 32),d18],(.dat (.bool true))⟩,
 ⟨256,[d0,(i 4),d18,(i 1)],(.tup [.dat d30,.dat (i 0)])⟩,
 ⟨256,[d0,(i 4),d14,(i 0)],(.tup [.dat d15,.dat (i 0)])⟩,
 ⟨202,[d0,(i 4),d15],(.dat (.bool true))⟩,
 ⟨202,[d0,(i 32),d15],(.dat (.bool true))⟩,
 ⟨256,[d0,(i 4),d15,(i 1)],(.tup [.dat d30,.dat (i 0)])⟩]
def e2_2 : List Ent:=[
 ⟨48,[d0,(g [(i 1),(i 4)]),(l [])],(.tup [.dat (g [(l []),(l [(g [(i 0),(i 0),(i 0),(i 1),(i 0),(i 0),(i 0),(i 0),(i 0),(i 0),(i 0),(i 0),(i 0),(i 0),(i 1),(i 0),(l [])]),(g [(i 1),(i 1),(i 0),(i 0),(i 0),(i 0),(i 0),(i 0),(i 0),(i 0),(i 0),(i 0),(i 0),(i 0),(i 1),(i 0),(l [])])]),(l [(i 0),(i 0)]),(l []),(l []),(l []),(l [])]),.dat (i 0)])⟩,
 ⟨202,[d0,(i 32),d21],(.dat (.bool true))⟩,
 ⟨202,[d0,(i 32),d30],(.dat (.bool true))⟩,
 ⟨367,[d28],(.dat (l [(l [(.int .u64 0)]),(l [(.int .u64 1)]),(l [(.int .u64 3)]),(l [(.int .u64 7)])]))⟩,
 ⟨367,[d29],(.dat (l [(l [(.int .u64 0)]),(l [(.int .u64 0)]),(l [(.int .u64 3)]),(l [(.int .u64 3)])]))⟩,
 ⟨256,[d0,(i 4),d15,(i 0)],(.tup [.dat d26,.dat (i 0)])⟩,
 ⟨202,[d0,(i 32),d26],(.dat (.bool true))⟩,
 ⟨202,[d0,(i 4),d26],(.dat (.bool true))⟩,
 ⟨367,[(l [(g [(i 1),(i 0),(i 1),(i 1),(i (-1)),(i (-1)),(i 2),(i 0),(i 0)]),(g [(i 1),(i 1),(i 1),(i 0),(i (-1)),(i (-1)),(i 0),(i 0),(i 0)]),(g [(i 0),(i 0),(i 2),(i 0),(i (-1)),(i (-1)),(i 0),(i 0),(i 1)]),(g [(i 0),(i 1),(i 2),(i 1),(i (-1)),(i (-1)),(i 2),(i 0),(i 1)])])],(.dat (l [(l [(.int .u64 0)]),(l [(.int .u64 1)]),(l [(.int .u64 3)]),(l [(.int .u64 7)])]))⟩]
def e2 : List Ent:=e2_0 ++ e2_1 ++ e2_2
def e3_0 : List Ent:=[
 ⟨170,[d0,(i 4),d2],(.dat (.bool true))⟩,
 ⟨171,[d0,d16],(.tup [.dat (g [(i 9),(i 0),(i 0),(i 0),(i 0),(i 0),(i 0),(i 0)]),.dat (.bool true)])⟩,
 ⟨170,[d0,(i 4),d3],(.dat (.bool true))⟩,
 ⟨171,[d0,d17],(.tup [.dat (g [(i 9),(i 0),(i 0),(i 0),(i 1),(i 0),(i 0),(i 2)]),.dat (.bool true)])⟩,
 ⟨170,[d0,(i 4),d6],(.dat (.bool true))⟩,
 ⟨171,[d0,d14],(.tup [.dat (g [(i 8),(i 0),(i 0),(i 0),(i 1),(i 0),(i 0),(i 2)]),.dat (.bool true)])⟩,
 ⟨170,[d0,(i 4),d7],(.dat (.bool true))⟩,
 ⟨171,[d0,d18],(.tup [.dat (g [(i 8),(i 0),(i 0),(i 0),(i 0),(i 0),(i 0),(i 0)]),.dat (.bool true)])⟩,
 ⟨170,[d0,(i 4),d8],(.dat (.bool true))⟩,
 ⟨170,[d0,(i 4),d9],(.dat (.bool true))⟩,
 ⟨171,[d0,d15],(.tup [.dat (g [(i 8),(i 0),(i 0),(i 0),(i 0),(i 0),(i 0),(i 0)]),.dat (.bool true)])⟩,
 ⟨170,[d0,(i 32),d2],(.dat (.bool true))⟩,
 ⟨170,[d0,(i 32),d3],(.dat (.bool true))⟩,
 ⟨170,[d0,(i 32),d6],(.dat (.bool true))⟩,
 ⟨170,[d0,(i 32),d7],(.dat (.bool true))⟩,
 ⟨170,[d0,(i 32),d24],(.dat (.bool true))⟩,
 ⟨170,[d0,(i 32),d8],(.dat (.bool true))⟩,
 ⟨170,[d0,(i 32),d9],(.dat (.bool true))⟩,
 ⟨170,[d0,(i 32),d4],(.dat (.bool true))⟩,
 ⟨170,[d0,(i 4),d4],(.dat (.bool true))⟩,
 ⟨170,[d0,(i 32),d12],(.dat (.bool true))⟩,
 ⟨170,[d0,(i 4),d12],(.dat (.bool true))⟩,
 ⟨170,[d0,(i 32),d13],(.dat (.bool true))⟩,
 ⟨170,[d0,(i 4),d13],(.dat (.bool true))⟩,
 ⟨170,[d0,(i 32),d27],(.dat (.bool true))⟩]
def e3 : List Ent:=e3_0
def e4_0 : List Ent:=[
 ⟨167,[d1,d2,(i 0)],(.tup [.dat d3,.dat d5,.dat (i 0)])⟩,
 ⟨167,[d1,d3,(i 0)],(.tup [.dat d6,.dat d10,.dat (i 0)])⟩,
 ⟨167,[d1,d6,(i 1)],(.tup [.dat d7,.dat d25,.dat (i 0)])⟩,
 ⟨167,[d1,d7,(i 1)],(.tup [.dat d24,.dat d19,.dat (i 0)])⟩,
 ⟨167,[d1,d3,(i 1)],(.tup [.dat d8,.dat d11,.dat (i 0)])⟩]
def e4_1 : List Ent:=[
 ⟨167,[d1,d8,(i 0)],(.tup [.dat d9,.dat d10,.dat (i 0)])⟩,
 ⟨167,[d1,d9,(i 1)],(.tup [.dat d24,.dat d19,.dat (i 0)])⟩,
 ⟨337,[d0,d2,(i 0)],(.tup [.dat d5,.dat (.bool true)])⟩,
 ⟨337,[d0,d3,(i 0)],(.tup [.dat d10,.dat (.bool true)])⟩,
 ⟨337,[d0,d6,(i 1)],(.tup [.dat d25,.dat (.bool true)])⟩,
 ⟨337,[d0,d7,(i 1)],(.tup [.dat d19,.dat (.bool true)])⟩,
 ⟨337,[d0,d24,(i 0)],(.tup [.dat (g [(i 0),(i 0),(i 0),(i 0),(i 0),(i 0),(i 0),(i 0),(i 0)]),.dat (.bool false)])⟩,
 ⟨337,[d0,d24,(i 1)],(.tup [.dat (g [(i 0),(i 0),(i 0),(i 0),(i 0),(i 0),(i 0),(i 0),(i 0)]),.dat (.bool false)])⟩,
 ⟨337,[d0,d3,(i 1)],(.tup [.dat d11,.dat (.bool true)])⟩,
 ⟨337,[d0,d8,(i 0)],(.tup [.dat d10,.dat (.bool true)])⟩,
 ⟨337,[d0,d9,(i 1)],(.tup [.dat d19,.dat (.bool true)])⟩]
def e4_2 : List Ent:=[
 ⟨167,[d1,d2,(i 1)],(.tup [.dat d4,.dat d11,.dat (i 0)])⟩,
 ⟨167,[d1,d4,(i 1)],(.tup [.dat d12,.dat d20,.dat (i 0)])⟩,
 ⟨337,[d0,d2,(i 1)],(.tup [.dat d11,.dat (.bool true)])⟩,
 ⟨337,[d0,d4,(i 1)],(.tup [.dat d20,.dat (.bool true)])⟩,
 ⟨337,[d0,d4,(i 0)],(.tup [.dat d5,.dat (.bool true)])⟩,
 ⟨337,[d0,d12,(i 0)],(.tup [.dat d5,.dat (.bool true)])⟩,
 ⟨167,[d1,d12,(i 0)],(.tup [.dat d13,.dat d5,.dat (i 0)])⟩,
 ⟨337,[d0,d13,(i 0)],(.tup [.dat d10,.dat (.bool true)])⟩]
def e4_3 : List Ent:=[
 ⟨167,[d1,d13,(i 0)],(.tup [.dat d27,.dat d10,.dat (i 0)])⟩,
 ⟨337,[d0,d27,(i 0)],(.tup [.dat (g [(i 0),(i 0),(i 0),(i 0),(i 0),(i 0),(i 0),(i 0),(i 0)]),.dat (.bool false)])⟩,
 ⟨337,[d0,d27,(i 1)],(.tup [.dat (g [(i 0),(i 0),(i 0),(i 0),(i 0),(i 0),(i 0),(i 0),(i 0)]),.dat (.bool false)])⟩,
 ⟨167,[d1,d4,(i 0)],(.tup [.dat d8,.dat d5,.dat (i 0)])⟩]
def e4 : List Ent:=e4_0 ++ e4_1 ++ e4_2 ++ e4_3
def e5_0 : List Ent:=[
 ⟨48,[d0,(g [(i 1),(i 4)]),d22],(.tup [.dat (g [(l [(g [(i 0),(i 0),(i 2),(i 0),(i (-1)),(i (-1)),(i 0),(i 0),(i 1)]),(g [(i 0),(i 1),(i 2),(i 1),(i (-1)),(i (-1)),(i 2),(i 0),(i 1)]),(g [(i 1),(i 0),(i 1),(i 1),(i (-1)),(i (-1)),(i 2),(i 1),(i 0)]),(g [(i 1),(i 1),(i 1),(i 0),(i (-1)),(i (-1)),(i 0),(i 1),(i 0)])]),(l [(g [(i 0),(i 0),(i 2),(i 1),(i 0),(i 0),(i 0),(i 0),(i 0),(i 0),(i 0),(i 2),(i 0),(i 0),(i 2),(i 0),(l [])]),(g [(i 1),(i 1),(i 2),(i 1),(i 0),(i 0),(i 0),(i 0),(i 0),(i 0),(i 0),(i 2),(i 0),(i 0),(i 2),(i 0),(l [])])]),(l [(i 1),(i 1)]),(l []),(l []),(l []),(l [])]),.dat (i 0)])⟩,
 ⟨48,[d0,(g [(i 1),(i 4)]),d23],(.tup [.dat (g [(l [(g [(i 0),(i 0),(i 2),(i 0),(i (-1)),(i (-1)),(i 0),(i 0),(i 1)]),(g [(i 1),(i 0),(i 1),(i 1),(i (-1)),(i (-1)),(i 2),(i 0),(i 0)]),(g [(i 0),(i 1),(i 2),(i 1),(i (-1)),(i (-1)),(i 2),(i 0),(i 1)]),(g [(i 1),(i 1),(i 1),(i 0),(i (-1)),(i (-1)),(i 0),(i 1),(i 0)])]),(l [(g [(i 0),(i 0),(i 2),(i 1),(i 0),(i 0),(i 0),(i 0),(i 0),(i 0),(i 0),(i 2),(i 0),(i 0),(i 2),(i 0),(l [])]),(g [(i 1),(i 1),(i 2),(i 1),(i 0),(i 0),(i 0),(i 0),(i 0),(i 0),(i 0),(i 2),(i 0),(i 0),(i 2),(i 0),(l [])])]),(l [(i 1),(i 1)]),(l []),(l []),(l []),(l [])]),.dat (i 0)])⟩,
 ⟨321,[d0,(g [(i 1),(i 4)]),d2,(i 0)],(.tup [.dat d5,.dat (.bool true)])⟩,
 ⟨321,[d0,(g [(i 1),(i 4)]),d3,(i 0)],(.tup [.dat d10,.dat (.bool true)])⟩,
 ⟨321,[d0,(g [(i 1),(i 4)]),d6,(i 1)],(.tup [.dat d25,.dat (.bool true)])⟩,
 ⟨321,[d0,(g [(i 1),(i 4)]),d7,(i 1)],(.tup [.dat d19,.dat (.bool true)])⟩,
 ⟨48,[d0,(g [(i 1),(i 4)]),(l [(i 0)])],(.tup [.dat (g [(l [(g [(i 0),(i 0),(i 2),(i 0),(i (-1)),(i (-1)),(i 0),(i 0),(i 1)])]),(l [(g [(i 0),(i 0),(i 1),(i 1),(i 0),(i 0),(i 0),(i 0),(i 0),(i 0),(i 0),(i 1),(i 0),(i 0),(i 1),(i 0),(l [])]),(g [(i 1),(i 1),(i 0),(i 0),(i 0),(i 0),(i 0),(i 0),(i 0),(i 0),(i 0),(i 0),(i 0),(i 0),(i 1),(i 0),(l [])])]),(l [(i 1),(i 0)]),(l []),(l []),(l []),(l [])]),.dat (i 0)])⟩,
 ⟨48,[d0,(g [(i 1),(i 4)]),(l [(i 0),(i 1)])],(.tup [.dat (g [(l [(g [(i 0),(i 0),(i 2),(i 0),(i (-1)),(i (-1)),(i 0),(i 0),(i 1)]),(g [(i 1),(i 0),(i 1),(i 1),(i (-1)),(i (-1)),(i 2),(i 0),(i 0)])]),(l [(g [(i 0),(i 0),(i 1),(i 1),(i 0),(i 0),(i 0),(i 0),(i 0),(i 0),(i 0),(i 1),(i 0),(i 0),(i 1),(i 0),(l [])]),(g [(i 1),(i 1),(i 1),(i 0),(i 0),(i 0),(i 0),(i 0),(i 0),(i 0),(i 0),(i 1),(i 0),(i 0),(i 1),(i 0),(l [])])]),(l [(i 1),(i 0)]),(l []),(l []),(l []),(l [])]),.dat (i 0)])⟩,
 ⟨321,[d0,(g [(i 1),(i 4)]),d3,(i 1)],(.tup [.dat d11,.dat (.bool true)])⟩,
 ⟨321,[d0,(g [(i 1),(i 4)]),d8,(i 0)],(.tup [.dat d10,.dat (.bool true)])⟩,
 ⟨321,[d0,(g [(i 1),(i 4)]),d9,(i 1)],(.tup [.dat d19,.dat (.bool true)])⟩]
def e5_1 : List Ent:=[
 ⟨48,[d0,(g [(i 1),(i 4)]),(l [(i 1)])],(.tup [.dat (g [(l [(g [(i 1),(i 0),(i 1),(i 1),(i (-1)),(i (-1)),(i 2),(i 0),(i 0)])]),(l [(g [(i 0),(i 0),(i 0),(i 1),(i 0),(i 0),(i 0),(i 0),(i 0),(i 0),(i 0),(i 0),(i 0),(i 0),(i 1),(i 0),(l [])]),(g [(i 1),(i 1),(i 1),(i 0),(i 0),(i 0),(i 0),(i 0),(i 0),(i 0),(i 0),(i 1),(i 0),(i 0),(i 1),(i 0),(l [])])]),(l [(i 0),(i 0)]),(l []),(l []),(l []),(l [])]),.dat (i 0)])⟩,
 ⟨48,[d0,(g [(i 1),(i 4)]),(l [(i 1),(i 1)])],(.tup [.dat (g [(l [(g [(i 1),(i 0),(i 1),(i 1),(i (-1)),(i (-1)),(i 2),(i 0),(i 0)]),(g [(i 1),(i 1),(i 1),(i 0),(i (-1)),(i (-1)),(i 0),(i 0),(i 0)])]),(l [(g [(i 0),(i 0),(i 0),(i 1),(i 0),(i 0),(i 0),(i 0),(i 0),(i 0),(i 0),(i 0),(i 0),(i 0),(i 1),(i 0),(l [])]),(g [(i 1),(i 1),(i 2),(i 0),(i 0),(i 0),(i 0),(i 0),(i 0),(i 0),(i 0),(i 2),(i 0),(i 0),(i 2),(i 0),(l [])])]),(l [(i 0),(i 0)]),(l []),(l []),(l []),(l [])]),.dat (i 0)])⟩,
 ⟨48,[d0,(g [(i 1),(i 4)]),(l [(i 0),(i 0)])],(.tup [.dat (g [(l [(g [(i 0),(i 0),(i 2),(i 0),(i (-1)),(i (-1)),(i 0),(i 0),(i 1)]),(g [(i 0),(i 1),(i 2),(i 1),(i (-1)),(i (-1)),(i 2),(i 0),(i 1)])]),(l [(g [(i 0),(i 0),(i 2),(i 1),(i 0),(i 0),(i 0),(i 0),(i 0),(i 0),(i 0),(i 2),(i 0),(i 0),(i 2),(i 0),(l [])]),(g [(i 1),(i 1),(i 0),(i 0),(i 0),(i 0),(i 0),(i 0),(i 0),(i 0),(i 0),(i 0),(i 0),(i 0),(i 1),(i 0),(l [])])]),(l [(i 1),(i 1)]),(l []),(l []),(l []),(l [])]),.dat (i 0)])⟩,
 ⟨321,[d0,(g [(i 1),(i 4)]),d2,(i 1)],(.tup [.dat d11,.dat (.bool true)])⟩,
 ⟨321,[d0,(g [(i 1),(i 4)]),d4,(i 1)],(.tup [.dat d20,.dat (.bool true)])⟩,
 ⟨321,[d0,(g [(i 1),(i 4)]),d4,(i 0)],(.tup [.dat d5,.dat (.bool true)])⟩,
 ⟨321,[d0,(g [(i 1),(i 4)]),d12,(i 0)],(.tup [.dat d5,.dat (.bool true)])⟩,
 ⟨321,[d0,(g [(i 1),(i 4)]),d13,(i 0)],(.tup [.dat d10,.dat (.bool true)])⟩,
 ⟨48,[d0,(g [(i 1),(i 4)]),d31],(.tup [.dat (g [(l [(g [(i 1),(i 0),(i 1),(i 1),(i (-1)),(i (-1)),(i 2),(i 0),(i 0)]),(g [(i 1),(i 1),(i 1),(i 0),(i (-1)),(i (-1)),(i 0),(i 0),(i 0)]),(g [(i 0),(i 0),(i 2),(i 0),(i (-1)),(i (-1)),(i 0),(i 0),(i 1)]),(g [(i 0),(i 1),(i 2),(i 1),(i (-1)),(i (-1)),(i 2),(i 0),(i 1)])]),(l [(g [(i 0),(i 0),(i 2),(i 1),(i 0),(i 0),(i 0),(i 0),(i 0),(i 0),(i 0),(i 2),(i 0),(i 0),(i 2),(i 0),(l [])]),(g [(i 1),(i 1),(i 2),(i 0),(i 0),(i 0),(i 0),(i 0),(i 0),(i 0),(i 0),(i 2),(i 0),(i 0),(i 2),(i 0),(l [])])]),(l [(i 1),(i 1)]),(l []),(l []),(l []),(l [])]),.dat (i 0)])⟩]
def e5_2 : List Ent:=[
 ⟨48,[d0,(g [(i 1),(i 4)]),(l [(i 1),(i 0)])],(.tup [.dat (g [(l [(g [(i 1),(i 0),(i 1),(i 1),(i (-1)),(i (-1)),(i 2),(i 0),(i 0)]),(g [(i 0),(i 0),(i 2),(i 0),(i (-1)),(i (-1)),(i 0),(i 0),(i 1)])]),(l [(g [(i 0),(i 0),(i 1),(i 1),(i 0),(i 0),(i 0),(i 0),(i 0),(i 0),(i 0),(i 1),(i 0),(i 0),(i 1),(i 0),(l [])]),(g [(i 1),(i 1),(i 1),(i 0),(i 0),(i 0),(i 0),(i 0),(i 0),(i 0),(i 0),(i 1),(i 0),(i 0),(i 1),(i 0),(l [])])]),(l [(i 1),(i 0)]),(l []),(l []),(l []),(l [])]),.dat (i 0)])⟩]
def e5 : List Ent:=e5_0 ++ e5_1 ++ e5_2
def e6_0 : List Ent:=[
 ⟨31,[d0,(g [(i 1),(i 4)]),d22],(.tup [.dat (l []),.dat (i 0)])⟩,
 ⟨31,[d0,(g [(i 1),(i 4)]),d23],(.tup [.dat (l [(g [(i 0),(i 3)])]),.dat (i 0)])⟩,
 ⟨277,[d0,(g [(i 1),(i 4)]),d2,(l []),(i 0)],(.dat (l []))⟩,
 ⟨277,[d0,(g [(i 1),(i 4)]),d3,(l []),(i 0)],(.dat (l []))⟩,
 ⟨277,[d0,(g [(i 1),(i 4)]),d6,(l []),(i 1)],(.dat (l []))⟩,
 ⟨277,[d0,(g [(i 1),(i 4)]),d7,(l []),(i 1)],(.dat (l []))⟩,
 ⟨278,[d0,(g [(i 1),(i 4)]),d22],(.tup [.dat (l [(g [(i 1),(l [(i 1)])])]),.dat (i 0)])⟩,
 ⟨279,[d0,(g [(i 1),(i 4)]),(l [(i 0)]),(l [(i 1)])],(.tup [.dat (l [(i 1)]),.dat (i 0)])⟩,
 ⟨277,[d0,(g [(i 1),(i 4)]),d3,(l [(i 0)]),(i 1)],(.dat (l []))⟩,
 ⟨277,[d0,(g [(i 1),(i 4)]),d8,(l []),(i 0)],(.dat (l []))⟩,
 ⟨277,[d0,(g [(i 1),(i 4)]),d9,(l []),(i 1)],(.dat (l []))⟩]
def e6_1 : List Ent:=[
 ⟨278,[d0,(g [(i 1),(i 4)]),d23],(.tup [.dat (l [(g [(i 0),(l [(i 1),(i 1)])]),(g [(i 1),(l [(i 0)])])]),.dat (i 0)])⟩,
 ⟨279,[d0,(g [(i 1),(i 4)]),(l []),(l [(i 1),(i 1)])],(.tup [.dat (l [(i 1)]),.dat (i 0)])⟩,
 ⟨279,[d0,(g [(i 1),(i 4)]),(l [(i 0)]),(l [(i 0)])],(.tup [.dat (l [(i 0)]),.dat (i 0)])⟩,
 ⟨277,[d0,(g [(i 1),(i 4)]),d2,(l [(i 0)]),(i 1)],(.dat (l [(i 0)]))⟩,
 ⟨277,[d0,(g [(i 1),(i 4)]),d4,(l [(i 0)]),(i 1)],(.dat (l []))⟩,
 ⟨277,[d0,(g [(i 1),(i 4)]),d12,(l []),(i 0)],(.dat (l []))⟩,
 ⟨277,[d0,(g [(i 1),(i 4)]),d13,(l []),(i 0)],(.dat (l []))⟩]
def e6_2 : List Ent:=[
 ⟨278,[d0,(g [(i 1),(i 4)]),d31],(.tup [.dat (l [(g [(i 1),(l [(i 0)])])]),.dat (i 0)])⟩,
 ⟨279,[d0,(g [(i 1),(i 4)]),(l [(i 1)]),(l [(i 0)])],(.tup [.dat (l [(i 0)]),.dat (i 0)])⟩]
def e6 : List Ent:=e6_0 ++ e6_1 ++ e6_2
def e7_0 : List Ent:=[
 ⟨33,[d0,(g [(i 1),(i 4)]),(i 9)],(.tup [.dat (.bool false),.dat (i 0)])⟩]
def e7 : List Ent:=e7_0
def e8_0 : List Ent:=[
 ⟨15,[],(.dat (.bool true))⟩]
def e8 : List Ent:=e8_0
end Mm
end Go.Am

namespace Go.Am
open Go.Proofs
noncomputable def tfM (f : FuncId) : Option AFun:=if [48,136,167,170,171,202,256,337,279,45,322,367,321,31,277,33,16,15,278].contains f then none else tfA f
noncomputable def T0 : Tab:={ fn:=tfM,law:=lawA,lp:=tlA }
noncomputable def T1 : Tab:={ T0 with law:=memoL Mm.e1 T0.law }
noncomputable def T2 : Tab:={ T1 with law:=memoL Mm.e2 T1.law }
noncomputable def T3 : Tab:={ T2 with law:=memoL Mm.e3 T2.law }
noncomputable def T4 : Tab:={ T3 with law:=memoL Mm.e4 T3.law }
noncomputable def T5 : Tab:={ T4 with law:=memoL Mm.e5 T4.law }
noncomputable def T6 : Tab:={ T5 with law:=memoL Mm.e6 T5.law }
noncomputable def T7 : Tab:={ T6 with law:=memoL Mm.e7 T6.law }
noncomputable def T8 : Tab:={ T7 with law:=memoL Mm.e8 T7.law }
end Go.Am
