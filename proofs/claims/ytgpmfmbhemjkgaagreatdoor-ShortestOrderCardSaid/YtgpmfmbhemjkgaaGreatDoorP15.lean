/- Parts of the proofs of the statement, joined and made short: ZL2 ZL3. -/
import Derived.Test.YtgpmfmbhemjkgaaGreatDoorP12
import Derived.Sort.MapsRangeIn
import Derived.Sort.OwnSorted
import Derived.Maps.AppendAt
import Derived.WalkKit
import Derived.OwnWalkIn
import Derived.TacticsInMore
import Derived.RegionIn
import Derived.LoopNIn
import Derived.LoopIn
set_option linter.unusedVariables false
set_option linter.unusedSimpArgs false
set_option linter.unusedSectionVars false
namespace Go.Proofs
open Go.RowKit Go.Maps Go.Sort Go.Shelf
theorem TryzL.sorts (m : Nat) : AnyZI.SortsIn Tryz.prog TryzL.sorted_ren Fence.wide m :=
 ⟨fun blk off cap ss W hH hblk hsz => callsIn_wide.2 (AnyM.slices_Sort_int TryzL.sort blk off cap ss W hH hblk hsz),
  fun p cap W => callsIn_wide.2 (AnyM.slices_Sort_int_none TryzL.sort p cap W)⟩
theorem TryzL.info3 : (Tryz.prog.info? 3).map (fun i => (i.zero,i.size,i.bytes)) = some (some (.int .i64 0),1,8):=by kernel_rfl
set_option maxRecDepth 100000 in
set_option maxHeartbeats 1000000 in
theorem TryzL.keys1N {P : Program} {ρ : Ren} (L : SlLaysZI.n10 P ρ) {H : Type} (F : Fence) (n : Nat) (h10 : F.fn (ρ.f 10)) (hro : F.round = none) (hn : 1 ≤ n) (l Bm Om b nn : Nat) (D0 : DataW H) {R : Value → Option (DataW H × List MemPlace)} (J : List Int → World → Prop)
  (hY : ∀ pre x W,J pre W → pre.length < Maps.size D0 → YieldAt F (n - 1) P l #[encZ x] W fun e W' => e = .returned (.bool true) ∧ J (pre ++ [x]) W' ∧ KeepsWalks W W')
  (W : World) (hJ : AbidesFrom W.heap.size J) (hm : W.cell? ⟨Bm,Om,none⟩ = some (.map (some b))) (hown : W.ownsMap P (ρ.t 26) R b nn D0) (h0 : J [] W) :
  CallsIn F n P (ρ.f 10) #[.func (.yield l) #[] #[],.pointer (some ⟨Bm,Om,none⟩)] W fun e W' => (∃ v,e = .returned v) ∧ ∃ ss : List Int,ss.Perm (intKeys D0) ∧ J ss W':=by
 have mixed:=L.mixed; have t0:=L.t0; have a0:=L.a0; have z0:=L.z0; have v0:=L.v0; have t4:=L.t4; have a4:=L.a4; have z4:=L.z4; have v4:=L.v4; have t23:=L.t23; have a23:=L.a23; have z23:=L.z23; have v23:=L.v23; have t26:=L.t26; have a26:=L.a26; have z26:=L.z26; have v26:=L.v26; have t33:=L.t33; have a33:=L.a33; have z33:=L.z33; have v33:=L.v33
 have u0:=run_underlying L.t0; have u4:=run_underlying L.t4; have u23:=run_underlying L.t23; have u26:=run_underlying L.t26; have u33:=run_underlying L.t33
 obtain ⟨_,_,FG⟩:=L.f10
 refine callsIn_of_wp FG rfl h10 ?_ hro
 simp only [SlBodyZ.n10_ntmps ρ,List.size_toArray,List.length_cons,List.length_nil,Nat.reduceAdd,Nat.reduceSub,Array.replicate_succ,Array.replicate_zero,List.push_toArray,List.append_toArray,List.nil_append,List.cons_append]
 gi_wp2_with (first
  | (gi_at_range; refine wpListIn_range_own _ rfl _ (ρ.t 23) rfl (ρ.t 26) (ρ.t 3) (int_keyed L.t26) L.t23 _ b nn _ rfl hown ?_; intro w0 hrg0 hg0 hs0)
  | gi_in)
 go_frame
 gi_loopw [3] (fun _ wr => ∃ (left : Lit → Bool) (cnt : Nat) (ss : List Int),wr.ranges P (ρ.t 26) R b W.heap.size nn D0 left cnt ∧ ss.length + cnt ≤ Maps.size D0 ∧ CollectedI D0 left ss ∧ J ss wr)
  (fun _ wr => wr.rangeLeft b W.heap.size)
 case atStart =>
  exact ⟨_,_,[],hrg0,by simp,CollectedI.start D0,hJ [] W w0 none h0 hg0 (fun r e => by cases e)⟩
 case round =>
  obtain ⟨left,cnt,ss,hrg,hcs,hC,hJs⟩:=hrel
  gi_wp2_with (first
   | (gi_at_next; refine wpListIn_next_ranges _ rfl _ rfl (ρ.t 26) (int_keyed L.t26) R encZ id (fun key kl hk => by obtain ⟨x,hx,_⟩:=Maps.keyOf_i64 L.t26 hk; exact ⟨x,hx⟩) (fun v _ _ => ⟨v,rfl⟩) b W.heap.size nn _ _ _ rfl hrg ?_ ?_)
   | gi_in)
  ·intro hc0 hl0
   gi_wp2
   go_end0
   exact ⟨⟨_,rfl⟩,ss,hC.perm hown (int_keyed L.t26) L.t26 hl0,hJs⟩
  ·intro x c kl yd yp w2 cnt2 hkey hlk hv hat hrg2 hlt hg2 hs2 hen
   obtain ⟨x',ex,rfl,_⟩:=Maps.keyOf_i64 L.t26 hkey
   obtain rfl : x = x':=encZ_inj ex
   have hJ2 : J ss w2:=hJ ss wr w2 (some W.heap.size) hJs hg2 (fun r e => by cases e; exact ⟨Nat.le_refl _,hrg.iter_walk⟩)
   obtain ⟨fn,tmps,assign,body,hy,hR⟩:=hY ss x w2 hJ2 (by omega)
   clear hs2
   gi_wp2
   refine hR.mono ?_
   rintro e W3 ⟨rfl,hJ3,hk3⟩
   gi_wp2
   have hrg3:=hrg2.of_walks hk3
   go_roundw
   case rel => exact ⟨_,cnt2,ss ++ [x],hrg3,by simp; omega,hC.step hlk hat,hJ3⟩
   case measure => rw [hrg3.left_eq,hrg.left_eq]; exact hlt
theorem TryzL.keys_gives {P : Program} {ρ : Ren} (L : SlLaysZI.n10 P ρ) {H : Type} (F : Fence) (n : Nat) (h10 : F.fn (ρ.f 10)) (hro : F.round = none) (hn : 1 ≤ n) (Bm Om b nn : Nat) (D0 : DataW H) {R : Value → Option (DataW H × List MemPlace)} (w : World) (hBm : Bm < w.heap.size)
  (hm : w.cell? ⟨Bm,Om,none⟩ = some (.map (some b))) (hown : w.ownsMap P (ρ.t 26) R b nn D0) :
  SeqGives F n P (ρ.f 10) #[.pointer (some ⟨Bm,Om,none⟩)] encZ (fun ss => ss.Perm (intKeys D0)) (Maps.size D0) w:=fun l J W hW hJ hY h0 => by
 have hown' : W.ownsMap P (ρ.t 26) R b nn D0:=by
  have hbl:=hown.lt
  obtain ⟨es,clock,hb,Ft,hs,hD⟩:=hown
  exact ⟨es,clock,(hW.block b hbl).trans hb,Ft,hs,hD⟩
 exact TryzL.keys1N { L with } F n h10 hro hn l Bm Om b nn D0 J hY W hJ ((hW.cell (p:=⟨Bm,Om,none⟩) hBm).trans hm) hown' h0
set_option maxHeartbeats 1000000 in
theorem TryzL.call {H : Type} (Bm Om b nn : Nat) (D0 : DataW H) {R : Value → Option (DataW H × List MemPlace)} (w : World) (hBm : Bm < w.heap.size) (hm : w.cell? ⟨Bm,Om,none⟩ = some (.map (some b)))
  (hown : w.ownsMap Tryz.prog (TryzL.sorted_ren.t 26) R b nn D0) (hsz : Maps.size D0 ≤ 1000) :
  Calls Tryz.prog 252 #[.func (.func 272) #[] #[.pointer (some ⟨Bm,Om,none⟩)]] w fun e w' => ∃ (v : Value) (ss : List Int),e = .returned v ∧ ss.Perm (intKeys D0) ∧
   w'.ownsRow w.heap.size (TryzL.sorted_ren.t 26) 1 v ss.length ((ss.mergeSort (fun x y => decide (x ≤ y))).map encZ) ∧ Below w.heap.size w w':=by
 refine (callsIn_wide (n:=5)).1 ?_
 have hseq : SeqGives Fence.wide 2 Tryz.prog 272 #[.pointer (some ⟨Bm,Om,none⟩)] encZ (fun ss => ss.Perm (intKeys D0)) (Maps.size D0) w :=
  TryzL.keys_gives (ρ:=TryzL.keys_ren) TryzL.keys Fence.wide _ trivial rfl (by omega) Bm Om b nn D0 _ hBm hm hown
 have hmax : (1000 : Nat) ≤ maxLen:=by decide
 have cS:=AnyZI.sorted_in TryzL.sorted Fence.wide 5 trivial trivial trivial trivial rfl (by omega) (TryzL.sorts _) (enters_of Tryz.func61 (by kernel_rfl) rfl) 272 #[.pointer (some ⟨Bm,Om,none⟩)] trivial (enters_of Tryz.func272 (by kernel_rfl) rfl) _ _ (by omega) (by omega) _ hseq
 change CallsIn _ _ Tryz.prog 252 _ _ _ at cS
 refine cS.mono ?_
 rintro e w' ⟨v,ss,h1,h2,h3,_,h5⟩
 exact ⟨v,ss,h1,h2,h3,h5⟩
set_option maxRecDepth 100000 in
set_option maxHeartbeats 4000000 in
theorem TryzL.f42_in {H : Type} (b nn : Nat) (D0 : DataW H) {R : Value → Option (DataW H × List MemPlace)} (w : World) (hown : w.ownsMap Tryz.prog 3 R b nn D0) (hmax : Maps.size D0 ≤ 1000) :
  CallsIn Fence.wide 68 Tryz.prog 42 #[.map (some b)] w fun e w' => ∃ (v : Value) (ss : List Int),e = .returned v ∧ ss.Perm (intKeys D0) ∧
   w'.ownsRow w.heap.size 3 1 v ss.length ((ss.mergeSort (fun x y => decide (x ≤ y))).map encZ) ∧ Below w.heap.size w w':=by
 have hM : (1000 : Nat) ≤ maxLen:=by decide
 obtain ⟨i0,hi,hz0,hz1,hz2⟩:=info_parts TryzL.info3
 have hbl:=hown.lt
 have hsort:=TryzL.sorts 67
 refine callsIn_of_wp Tryz.func42 rfl trivial ?_ rfl
 simp only [Tryz.ntmps42,List.size_toArray,List.length_cons,List.length_nil,Nat.reduceAdd,Nat.reduceSub,Array.replicate_succ,Array.replicate_zero,List.push_toArray,List.append_toArray,List.nil_append,List.cons_append]
 gi_wp2_with (first
  | (gi_at_range; refine wpListIn_range_own _ rfl _ 120 rfl 3 3 (int_keyed Tryz.underlying3) Tryz.underlying120 _ b nn _ rfl hown ?_; intro w0 hrg0 hg0 hs0)
  | gi_in)
 go_frame
 gi_loopw [3] (fun v wr => ∃ (left : Lit → Bool) (cnt : Nat) (ss : List Int),wr.ranges Tryz.prog 3 R b w.heap.size nn D0 left cnt ∧ ss.length + cnt ≤ Maps.size D0 ∧
   wr.ownsRow w.heap.size 3 1 v ss.length (ss.map encZ) ∧ CollectedI D0 left ss ∧ Below w.heap.size w wr)
  (fun _ wr => wr.rangeLeft b w.heap.size)
 case atStart =>
  exact ⟨_,_,[],hrg0,by simp,⟨rfl,.inl ⟨rfl,rfl⟩⟩,CollectedI.start D0,(Below.refl _ _).grown hg0 (Nat.le_refl _) (fun j hj => by cases hj)⟩
 case round =>
  obtain ⟨left,cnt,ss,hrg,hcs,hrow,hC,hnx⟩:=hrel
  gi_wp2_with (first
   | (gi_at_next; refine wpListIn_next_ranges _ rfl _ rfl 3 (int_keyed Tryz.underlying3) R encZ id (fun key kl hk => by obtain ⟨x,hx,_⟩:=Maps.keyOf_i64 Tryz.underlying3 hk; exact ⟨x,hx⟩) (fun v _ _ => ⟨v,rfl⟩) b w.heap.size nn _ _ _ rfl hrg ?_ ?_)
   | gi_in)
  ·intro hc0 hl0
   rcases hrow.2 with ⟨rfl,hz⟩ | ⟨g,cap,cur,rfl,hbase,hb,h1,h2,h3,h4⟩
   ·have hss : ss = []:=List.eq_nil_of_length_eq_zero hz
    subst hss
    gi_wp2
    refine ⟨trivial,(hsort.2 none 0 wr).mono ?_⟩
    rintro e w' ⟨rfl,rfl⟩
    gi_wp2
    go_ret
    exact ⟨_,[],rfl,hC.perm hown (int_keyed Tryz.underlying3) Tryz.underlying3 hl0,by simpa using hrow,hnx⟩
   ·have hH : Holds encZ wr g 0 ss.toArray:=holds_of_block_i hb (by simpa using h4)
    have hgl : g < wr.heap.size:=(Array.getElem?_eq_some_iff.1 hb).1
    have hsz : ss.length < 4611686018427387904:=by omega
    have cS:=hsort.1 g 0 cap ss wr hH hgl hsz
    gi_wp2
    refine ⟨trivial,cS.mono ?_⟩
    rintro e w' ⟨rfl,kk,os,rfl⟩
    gi_wp2
    go_ret
    exact ⟨_,ss,rfl,hC.perm hown (int_keyed Tryz.underlying3) Tryz.underlying3 hl0,ownsRow_sorted_i (by simp) hbase hb h1 h2 h3,hnx.grown (grownBy_sorted_i _) hnx.size (fun j hj => by cases hj; exact hbase)⟩
  ·intro x c kl yd yp w2 cnt2 hkey hlk hv hat hrg2 hlt hg2 hs2 hen
   obtain ⟨x',ex,rfl,_⟩:=Maps.keyOf_i64 Tryz.underlying3 hkey
   obtain rfl : x = x':=encZ_inj ex
   have hrow2:=hrow.kept hg2 (Or.inr (row_ne_iter hrow hrg).symm)
   clear hs2
   gi_wp2_with (first
    | (gi_at_builtin; refine wpListIn_append_own _ rfl _ _ 31 rfl w.heap.size 3 i0 (.int .i64 0) 1 8 Tryz.underlying31 hi hz0 hz1 hz2 rfl (by decide) _ _ _ rfl (hrow2.alloc _) ⟨w2.heap.size,0,none⟩ 1 1 [encZ x] rfl rfl (cell_one_new _ _ _) (by simp [Value.oneCell',encZ]) (by omega) (by omega) (by have:=hnx.size; have:=hg2.size; simp; omega) ?_; intro v' w3 hown' hg3 hnil3; go_frame)
    | gi_in)
   have hrg3:=(hrg2.alloc _).kept hg3 (row_ne_low hrow2 hbl) (row_ne_iter hrow2 hrg2)
   go_roundw
   case rel =>
    refine ⟨_,cnt2,ss ++ [x],hrg3,by simp; omega,by simpa using hown',hC.step hlk hat,?_⟩
    exact ((hnx.grown hg2 hnx.size (fun j hj => by cases hj; exact Nat.le_refl _)).alloc (by have:=hnx.size; have:=hg2.size; omega) _).grown hg3 (by have:=hnx.size; have:=hg2.size; simp; omega) (fun j hj => (hrow2.lt j hj).1)
   case measure => rw [hrg3.left_eq,hrg.left_eq]; exact hlt
end Go.Proofs

namespace Go.Am
open Go.Proofs Go.Maps Go.Sort
def keysI : List (Dat × AVal) → Option (List Int)
 | [] => some []
 | (.int .i64 n,_) :: r => match keysI r with
  | some l => some (n :: l)
  | none => none
 | _ :: _ => none
def distI : List Int → Bool
 | [] => true
 | x :: r => r.all (fun y => !decide (x = y)) && distI r
def inI (n : Int) : Bool:=decide (-9223372036854775808 ≤ n) && decide (n < 9223372036854775808)
def keyR (m : Nat) (os : List TObj) : Option (AVal × List TObj):=match os[m]? with
 | some (.plain (.blk (.map es))) => match keysI es with
  | some ks => if decide (ks.length ≤ 1000) && distI ks && ks.all inI then some (.dat (.sl ((sortS ks).map fun n => .int .i64 n)),os) else none
  | none => none
 | _ => none
def keyLaw : Orc:=fun f args os =>
 if f = 252 then
  match args with
  | [.fn 272 [.ref ((0,b),0,0) 0]] => match os[b]? with
   | some (.plain (.box [.bref false ((0,m),0,0)])) => keyR m os
   | _ => none
  | _ => none
 else if f = 42 then
  match args with
  | [.bref false ((0,m),0,0)] => keyR m os
  | _ => none
 else none
theorem mergeSort_sortS {ss ks : List Int} (h : ss.Perm ks) : ss.mergeSort (fun x y => decide (x ≤ y)) = sortS ks:=by
 rw [sort_ms]
 exact pw_uniq (sortS_pw _) (sortS_pw _) ((zxb7 ss).trans (h.trans (zxb7 ks).symm))
theorem distI_nodup : ∀ {l : List Int},distI l = true → l.Nodup
 | [],_ => List.nodup_nil
 | x :: r,h => by
  simp only [distI,Bool.and_eq_true,List.all_eq_true] at h
  refine List.nodup_cons.2 ⟨fun hx => ?_,distI_nodup h.2⟩
  have:=h.1 x hx
  simp at this
theorem insert_perm {H : Type} (x : Lit × DataW H) : ∀ l : List (Lit × DataW H),(DataW.insert x l).Perm (x :: l)
 | [] => List.Perm.refl _
 | y :: r => by
  simp only [DataW.insert]
  split
  ·exact List.Perm.refl _
  ·exact ((insert_perm x r).cons y).trans (List.Perm.swap x y r)
theorem zxc7 {H : Type} : ∀ l : List (Lit × DataW H),(l.foldr DataW.insert []).Perm l
 | [] => List.Perm.refl _
 | x :: r => (insert_perm x _).trans ((zxc7 r).cons x)
theorem cells_one {v : Value} {k : IntKind} {n : Int} (h : v.cells.toList = [.int k n]) (h' : zlc7 v = false) : v = .int k n:=by
 cases v <;> simp_all [Value.cells,zlc7]
theorem ents_keys {C : Ctx} : ∀ {es : List (Dat × AVal)} {ens : List MapEntry} {ks : List Int},EntsOK C es ens → keysI es = some ks → ens.map (·.key) = ks.map (fun n => Value.int .i64 n)
 | [],ens,ks,he,hk => by
  simp only [keysI,Option.some.injEq] at hk
  subst hk
  simp only [EntsOK] at he
  subst he
  rfl
 | (d,v) :: r,ens,ks,he,hk => by
  simp only [EntsOK] at he
  obtain ⟨en,ens',rfl,h1,_,h4⟩:=he
  cases d with
  | int k n =>
   cases k with
   | i64 =>
    simp only [keysI] at hk
    split at hk
    ·rename_i l hl
     simp only [Option.some.injEq] at hk
     subst hk
     have:=h1
     simp only [List.map_cons,ents_keys h4 hl,List.cons.injEq,and_true]
     obtain ⟨h5,h6⟩:=h1
     simp only [RepD] at h5
     exact cells_one h5 h6
    ·cases hk
   | _ => simp [keysI] at hk
  | _ => simp [keysI] at hk
theorem row_ints {F : Froz} {g : Nat} : ∀ (l : List Int) (o : Nat),(∀ j n,l[j]? = some n → F g (o + j) = some (.int .i64 n)) → RowD F (l.map fun n => Dat.int .i64 n) g o 1
 | [],_,_ => by simp [RowD]
 | n :: r,o,h => by
  simp only [List.map_cons,RowD]
  refine ⟨⟨[.int .i64 n],rfl,by simp [RepD],fun j v hj => ?_⟩,row_ints r (o + 1) fun j m hj => ?_⟩
  ·cases j with
   | zero => simp at hj; subst hj; exact h 0 n rfl
   | succ j => simp at hj
  ·rw [show o + 1 + j = o + (j + 1) by omega]
   exact h (j + 1) m (by simpa using hj)
theorem keptI {w w' : World} (h : RowKit.Below w.heap.size w w') (T : Cells) : Kept w w' T :=
 ⟨⟨h.os,h.output,fun i hi => by rw [h.block i hi]; exact (World.keptBut_refl w _).2.2 i hi⟩,fun a ha => by unfold World.frozen?; rw [h.block _ ha],h.size⟩
theorem own_map {C : Ctx} (hI : Inv (zpf7 C) C) {id : Id} {es : List (Dat × AVal)} {ks : List Int} {mv : Value} (hρm : C.ρ id = some (.blk (.map es))) (hrm : RepA C (.bref false id) mv) (hks : keysI es = some ks)
  (hc : (decide (ks.length ≤ 1000) && distI ks && ks.all inI) = true) :
  ∃ (b nn : Nat) (D0 : DataW Unit) (R : Value → Option (DataW Unit × List MemPlace)),mv = .map (some b) ∧ C.w.ownsMap Tryz.prog 3 R b nn D0 ∧ (intKeys D0).Perm ks ∧ Maps.size D0 ≤ 1000:=by
 simp only [Bool.and_eq_true,decide_eq_true_eq,List.all_eq_true] at hc
 obtain ⟨⟨hlen,hdist⟩,hin⟩:=hc
 obtain ⟨rfl,ens,clock,hheap,hborn,hents⟩:=mref_rep hI hρm hrm
 have hkeys:=ents_keys hents hks
 have h26 : Tryz.prog.underlying (3) = some (.int .i64):=Tryz.underlying3
 have hwf : ∀ n ∈ ks,keyOf Tryz.prog (3) (.int .i64 n) = some (.int .i64 n):=by
  intro n hn
  have hn':=hin n hn
  simp only [inI,Bool.and_eq_true,decide_eq_true_eq] at hn'
  refine Maps.keyOf_int_mk h26 ?_
  simp [Lit.wf,IntKind.min,IntKind.max,IntKind.bits,IntKind.signed]
  omega
 let R : Value → Option (DataW Unit × List MemPlace):=fun _ => some (.nil,[])
 have hrd : ∀ x ∈ ens.toList,∃ n ∈ ks,x.key = .int .i64 n ∧ WideElems.rd Tryz.prog (3) R x = some (.int .i64 n,.nil):=by
  intro x hx
  have : x.key ∈ ks.map (fun n => Value.int .i64 n):=by rw [← hkeys]; exact List.mem_map.2 ⟨x,hx,rfl⟩
  obtain ⟨n,hn,e⟩:=List.mem_map.1 this
  refine ⟨n,hn,e.symm,?_⟩
  unfold WideElems.rd
  rw [← e,hwf n hn]
  rfl
 have hesz : ens.size = ks.length:=by
  have:=congrArg List.length hkeys
  simpa using this
 have hown : C.w.ownsMap Tryz.prog (3) R (C.μ id).b ens.size (.map ((ens.toList.map (WideElems.rg Tryz.prog (3) R)).foldr DataW.insert [])):=by
  refine ⟨ens,clock,hheap,⟨?_,⟨hborn.1,hborn.2,?_⟩,?_⟩,Nat.le_refl _,rfl⟩
  ·have : (1000 : Nat) ≤ maxLen:=by decide
   omega
  ·rw [hkeys]
   exact (distI_nodup hdist).map _ (fun a b h e => h (by simpa using e))
  ·intro x hx
   obtain ⟨n,_,_,h⟩:=hrd x hx
   exact ⟨_,h⟩
 have hkp : (intKeys (.map ((ens.toList.map (WideElems.rg Tryz.prog (3) R)).foldr DataW.insert []))).Perm ks:=by
  simp only [intKeys]
  refine ((zxc7 _).map _).trans ?_
  have : (ens.toList.map (WideElems.rg Tryz.prog (3) R)).map (fun p => Go.intOf p.1) = ks:=by
   have h2 : (ens.toList.map (WideElems.rg Tryz.prog (3) R)).map (fun p => Go.intOf p.1) = (ens.toList.map (·.key)).map Go.Proofs.intOf:=by
    rw [List.map_map,List.map_map]
    apply List.map_congr_left
    intro x hx
    obtain ⟨n,_,e,h⟩:=hrd x hx
    simp [WideElems.rg,h,e,Go.intOf,Go.Proofs.intOf]
   rw [h2,hkeys,List.map_map]
   simp [Function.comp_def,Go.Proofs.intOf]
  rw [this]
 have hsize : Maps.size (DataW.map ((ens.toList.map (WideElems.rg Tryz.prog (3) R)).foldr DataW.insert [])) ≤ 1000:=by
  rw [Maps.size_eq,(zxc7 _).length_eq]
  simp; omega
 exact ⟨_,_,_,_,rfl,hown,hkp,hsize⟩
theorem keys_post {C : Ctx} {os : List TObj} (hρ : C.ρ = flat (zhb7 os)) (hI : Inv (zpf7 C) C) {w' : World} {val : Value} {ss ks : List Int} (hp : ss.Perm ks)
  (hrow : w'.ownsRow C.w.heap.size 3 1 val ss.length ((ss.mergeSort (fun x y => decide (x ≤ y))).map encZ)) (hbel : RowKit.Below C.w.heap.size C.w w') :
  PostOK C os (.dat (.sl ((sortS ks).map fun n => .int .i64 n))) os (.returned val) w':=by
 rw [mergeSort_sortS hp] at hrow
 have hlen2 : ss.length = (sortS ks).length:=by rw [hp.length_eq,(zxb7 ks).length_eq]
 have hkept:=keptI hbel (fun _ _ => False)
 rcases hrow.2 with ⟨rfl,hz⟩ | ⟨g,cap,cur,rfl,hbase,hgb,r1,r2,r3,r4⟩
 ·obtain ⟨p1,p2⟩:=hI.plain (C':={ C with w:=w' }) hkept (fun _ _ _ h => h) (fun b o v h => .inl h) (fun b o v h e => by simp only at h; rw [e] at h; cases h) rfl rfl
  refine ⟨_,{ C with w:=w' },rfl,rfl,hρ,p1,?_,?_⟩
  ·have : sortS ks = []:=List.eq_nil_of_length_eq_zero (by omega)
   rw [this]
   simp [RepA,RepV,RepD,Value.cells,zlc7,Dat.isAgg]
  ·exact ⟨p2.F,fun id L _ h => h,fun id A _ h => ⟨A,h,Nat.le_refl _,fun _ => ⟨rfl,rfl,Nat.le_refl _⟩⟩,fun id b _ h => h⟩
 ·have hnone : ∀ o,C.F g o = none:=by
   intro o
   cases e : C.F g o with
   | none => rfl
   | some v => have:=World.block_lt_of_cell? _ _ (hI.Fw _ _ _ e); simp at this; omega
  obtain ⟨p1,p2⟩:=hI.plain (C':={ C with w:=w',F:=C.F.add g cur.toList }) hkept (fun b o v hv => by
    simp only [Froz.add]
    split
    ·rename_i e; subst e; rw [hnone] at hv; cases hv
    ·exact hv) (fun b o v hv => by
    simp only [Froz.add] at hv
    split at hv
    ·rename_i e; subst e; exact .inr hbase
    ·exact .inl hv) (fun b o v hv e => by
    simp only [Froz.add] at hv
    split at hv
    ·rename_i e'; subst e'; rw [zsb7 hgb]; simpa using hv
    ·rw [e] at hv; cases hv) rfl rfl
  refine ⟨_,{ C with w:=w',F:=C.F.add g cur.toList },rfl,rfl,hρ,p1,?_,?_⟩
  ·simp only [RepA,RepV,RepD]
   refine ⟨⟨_,cap,by simp [Value.cells,hlen2],by simp; omega,.inr ⟨g,0,1,rfl,row_ints _ _ fun j n hj => ?_⟩⟩,rfl⟩
   have h5 : (cur.toList.take (ss.length * 1))[j]? = some (encZ n):=by rw [r4]; simp [hj]
   have hjl : j < (sortS ks).length:=(List.getElem?_eq_some_iff.1 hj).1
   rw [List.getElem?_take] at h5
   rw [if_pos (by omega)] at h5
   simp [Froz.add]
   simpa using h5
  ·exact ⟨p2.F,fun id L _ h => h,fun id A _ h => ⟨A,h,Nat.le_refl _,fun _ => ⟨rfl,rfl,Nat.le_refl _⟩⟩,fun id b _ h => h⟩
theorem keyLaw_ok : zpd7 Tryz.prog keyLaw:=by
 intro f args os v os' h
 unfold keyLaw at h
 split at h
 ·rename_i hf
  subst hf
  split at h
  rotate_left
  ·cases h
  rename_i args' b
  split at h
  rotate_left
  ·cases h
  rename_i m hb
  unfold keyR at h
  split at h
  rotate_left
  ·cases h
  rename_i es hm
  split at h
  rotate_left
  ·cases h
  rename_i ks hks
  split at h
  rotate_left
  ·cases h
  rename_i hc
  simp only [Option.some.injEq,Prod.mk.injEq] at h
  obtain ⟨rfl,rfl⟩:=h
  refine .inl ⟨by decide,by kernel_rfl,?_⟩
  intro C vals hρ hG hI hr
  simp only [RepL,RepA] at hr
  obtain ⟨c,cs',e1,⟨cs,e2,hrc⟩,e3⟩:=hr
  obtain ⟨p,cs2,e4,⟨L,hL,e5⟩,e6⟩:=hrc
  subst e3
  subst e6
  have hρb : C.ρ ((0,b),0,0) = some (.box [.bref false ((0,m),0,0)]):=by rw [hρ]; simp [flat,zhb7,hb,flatR]
  have hρm : C.ρ ((0,m),0,0) = some (.blk (.map es)):=by rw [hρ]; simp [flat,zhb7,hm,flatR]
  have hL' : L = C.μ ((0,b),0,0):=by simpa [boxAt,hρb] using hL.symm
  obtain ⟨_,_,_,hcell⟩:=hI.objs _ _ hρb
  obtain ⟨mv,hmv,hrm⟩:=hcell 0 _ rfl
  rw [← hL'] at hmv
  obtain ⟨bb,nn,D0,R,rfl,hown,hkp,hsize⟩:=own_map hI hρm hrm hks hc
  have hBm : L.b < C.w.heap.size:=by have:=World.block_lt_of_cell? _ _ hmv; simpa using this
  have call:=TryzL.call L.b (L.o + 0) _ _ _ C.w hBm hmv hown hsize
  have hvals : vals = #[.func (.func 272) #[] #[.pointer (some ⟨L.b,L.o + 0,none⟩)]]:=by
   apply Array.ext'
   rw [e1,e2]
   have : cs = #[.pointer (some ⟨L.b,L.o + 0,none⟩)]:=by
    apply Array.ext'
    rw [e4,e5]
   rw [this,if_neg (by rw [show BIGF = 2000 by unfold BIGF; rfl]; decide)]
  rw [hvals]
  refine call.mono ?_
  rintro e w' ⟨val,ss,rfl,hp,hrow,hbel⟩
  exact keys_post hρ hI (hp.trans hkp) hrow hbel
 split at h
 ·rename_i hf
  subst hf
  split at h
  rotate_left
  ·cases h
  rename_i args' m
  unfold keyR at h
  split at h
  rotate_left
  ·cases h
  rename_i es hm
  split at h
  rotate_left
  ·cases h
  rename_i ks hks
  split at h
  rotate_left
  ·cases h
  rename_i hc
  simp only [Option.some.injEq,Prod.mk.injEq] at h
  obtain ⟨rfl,rfl⟩:=h
  refine .inl ⟨by decide,by kernel_rfl,?_⟩
  intro C vals hρ hG hI hr
  have hr':=hr
  simp only [RepL] at hr
  obtain ⟨c,cs',e1,hrm,e3⟩:=hr
  subst e3
  have hρm : C.ρ ((0,m),0,0) = some (.blk (.map es)):=by rw [hρ]; simp [flat,zhb7,hm,flatR]
  obtain ⟨bb,nn,D0,R,rfl,hown,hkp,hsize⟩:=own_map hI hρm hrm hks hc
  have hvals : vals = #[.map (some bb)]:=by
   apply Array.ext'
   rw [e1]
  rw [hvals]
  refine (callsIn_wide.1 (TryzL.f42_in bb nn D0 C.w hown hsize)).mono ?_
  rintro e w' ⟨val,ss,rfl,hp,hrow,hbel⟩
  exact keys_post hρ hI (hp.trans hkp) hrow hbel
 ·cases h
end Go.Am
