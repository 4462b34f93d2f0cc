/- Parts of the proofs of the statement, joined and made short: AmRead AmLaw. -/
import Derived.Test.YtgaeajfoiigbkaaGreatDoorP7
import Derived.ChangeArms
import Derived.WideShapes
import Derived.WideKeyArgs
import Derived.JoinedOf
import Derived.OpenShut
set_option linter.unusedVariables false
set_option linter.unusedSimpArgs false
set_option linter.unusedSectionVars false
namespace Go.Am
def zgf7 (P : Program) (w : World) (t : TypeId) (T : Dat → Prop) : Prop :=
 ∀ (H : Type) (enc : TypeId × Value → H) (base : Nat) (spare : Nat → Bool) (held : Bool) (fuel : Nat) (cs : List Value) (x : DataW H × List MemPlace),
  DataW.trod enc P w base spare held fuel t cs = some x → ∃ D,RepD (allF w) D cs ∧ T D
def IsInt (k : IntKind) (D : Dat) : Prop:=∃ n,D = .int k n ∧ (Lit.int k n).wf = true
def IsBool (D : Dat) : Prop:=∃ b,D = .bool b
def IsStr (D : Dat) : Prop:=∃ s,D = .str s ∧ s.length ≤ maxLen
def IsSl (T : Dat → Prop) (D : Dat) : Prop:=∃ l,D = .sl l ∧ (∀ d ∈ l,T d) ∧ l.length ≤ maxLen
def IsAgg (Ts : List (Dat → Prop)) (D : Dat) : Prop:=∃ ds : List Dat,D = .agg (ds.flatMap Dat.cells) ∧ ds.length = Ts.length ∧ ∀ (i : Nat) (T : Dat → Prop) (d : Dat),Ts[i]? = some T → ds[i]? = some d → T d
section
variable {P : Program} {w : World} {t e : TypeId}
theorem zuc7 {k : IntKind} (ht : P.underlying t = some (.int k)) : zgf7 P w t (IsInt k):=by
 intro H enc base spare held fuel cs x h
 obtain ⟨n,rfl,_,hw⟩:=DataW.trod_int ht h
 exact ⟨.int k n,by simp [RepD],n,rfl,hw⟩
theorem reads_slice {T : Dat → Prop} (ht : P.underlying t = some (.slice e)) (hc : 0 < P.cellsOf e) (he : zgf7 P w e T) : zgf7 P w t (IsSl T):=by
 intro H enc base spare held fuel cs x h
 rcases DataW.trod_slice ht h with ⟨rfl,_⟩ | ⟨a,len,cap,elems,rest,n,_,rfl,_,hb,hl,hm,hlen,hel,_,_⟩
 ·exact ⟨.sl [],by simp [RepD],[],rfl,by simp,by simp⟩
 ·have each : ∀ i,i < len → ∃ D cs,RepD (allF w) D cs ∧ T D ∧ cs.length = P.cellsOf e ∧ (∀ j,j < P.cellsOf e → w.cell? ((a.add (i * P.cellsOf e)).add j) = cs[j]?):=by
   intro i hi
   have h1:=hel i hi
   have h2 : elems[i]? = some (elems[i]'(by omega)):=by simp
   rw [h2,Option.bind_eq_some_iff] at h1
   obtain ⟨cs',hcs,hy⟩:=h1
   obtain ⟨D,hD,hT⟩:=he H enc base spare held n cs' _ hy
   obtain ⟨_,hlen',hcell⟩:=World.cells?_some hcs
   exact ⟨D,cs',hD,hT,hlen',hcell⟩
  have list : ∀ m,m ≤ len → ∃ l : List Dat,l.length = m ∧ (∀ d ∈ l,T d) ∧ ∀ i d,l[i]? = some d → ∃ cs,RepD (allF w) d cs ∧ cs.length = P.cellsOf e ∧ (∀ j,j < P.cellsOf e → w.cell? ((a.add (i * P.cellsOf e)).add j) = cs[j]?):=by
   intro m
   induction m with
   | zero => intro _; exact ⟨[],rfl,by simp,by simp⟩
   | succ m ih =>
    intro hm'
    obtain ⟨l,l1,l2,l3⟩:=ih (by omega)
    obtain ⟨D,cs,d1,d2,d3,d4⟩:=each m (by omega)
    refine ⟨l ++ [D],by simp [l1],fun d hd => ?_,fun i d hi => ?_⟩
    ·rcases List.mem_append.1 hd with hd | hd
     ·exact l2 d hd
     ·simp at hd; subst hd; exact d2
    ·by_cases him : i < m
     ·rw [List.getElem?_append_left (by omega)] at hi
      exact l3 i d hi
     ·rw [List.getElem?_append_right (by omega)] at hi
      have : i = m:=by
       have:=(List.getElem?_eq_some_iff.1 hi).1
       simp at this
       omega
      subst this
      simp [l1] at hi
      subst hi
      exact ⟨cs,d1,d3,d4⟩
  obtain ⟨l,l1,l2,l3⟩:=list len (Nat.le_refl _)
  refine ⟨.sl l,?_,l,rfl,l2,by omega⟩
  simp only [RepD]
  refine ⟨some a,cap,by rw [l1],by omega,?_⟩
  cases l with
  | nil => exact .inl rfl
  | cons d r =>
   right
   have hspot : a.spot = none:=by
    obtain ⟨cs,c1,c2,c3⟩:=l3 0 d rfl
    have:=c3 0 hc
    cases hs : a.spot with
    | none => rfl
    | some sp =>
     have hcs : cs[0]? = some (cs[0]'(by omega)):=by simp
     rw [hcs] at this
     unfold World.cell? at this
     simp only [Addr.add] at this
     split at this
     ·simp at this; rw [hs] at this; simp at this
     ·cases this
   refine ⟨a.block,a.off,P.cellsOf e,by cases a; simp only at hspot; subst hspot; rfl,rowD_of fun i d hi => ?_⟩
   obtain ⟨cs,c1,c2,c3⟩:=l3 i d hi
   refine ⟨cs,c2,c1,fun j v hj => ?_⟩
   have hjl : j < P.cellsOf e:=by rw [← c2]; exact (List.getElem?_eq_some_iff.1 hj).1
   have:=c3 j hjl
   rw [hj] at this
   have ea : (a.add (i * P.cellsOf e)).add j = ⟨a.block,a.off + i * P.cellsOf e + j,none⟩:=by
    obtain ⟨b,o,s⟩:=a
    simp only at hspot
    subst hspot
    unfold Addr.add
    split <;> split <;> simp_all
   rw [ea] at this
   exact this
def laid (P : Program) (total : Nat) : Nat → List Field → Bool
 | o,[] => o == total
 | o,f :: r => f.offset == o && laid P total (o + P.cellsOf f.type) r
theorem reads_fields {cs : List Value} {total : Nat} (hlen : cs.length = total) : ∀ (fs : List Field) (Ts : List (Dat → Prop)) (o : Nat),laid P total o fs = true → fs.length = Ts.length →
  (∀ (i : Nat) (f : Field) (T : Dat → Prop),fs[i]? = some f → Ts[i]? = some T → ∃ D,RepD (allF w) D ((cs.drop f.offset).take (P.cellsOf f.type)) ∧ T D) →
  ∃ ds : List Dat,AggD (allF w) (ds.flatMap Dat.cells) (cs.drop o) ∧ ds.length = Ts.length ∧ ∀ (i : Nat) (T : Dat → Prop) (d : Dat),Ts[i]? = some T → ds[i]? = some d → T d
 | [],[],o,h,_,_ => by
  simp only [laid,beq_iff_eq] at h
  refine ⟨[],?_,rfl,by simp⟩
  rw [List.drop_of_length_le (by omega)]
  simp [AggD]
 | [],T :: Ts,o,h,hl,_ => by simp at hl
 | f :: fs,[],o,h,hl,_ => by simp at hl
 | f :: fs,T :: Ts,o,h,hl,he => by
  simp only [laid,Bool.and_eq_true,beq_iff_eq] at h
  obtain ⟨h1,h2⟩:=h
  obtain ⟨ds,e1,e2,e3⟩:=reads_fields hlen fs Ts _ h2 (by simpa using hl) fun i f' T' hi hT => he (i + 1) f' T' (by simpa using hi) (by simpa using hT)
  obtain ⟨D,d1,d2⟩:=he 0 f T rfl rfl
  refine ⟨D :: ds,?_,by simp [e2],fun i T' d hi hd => ?_⟩
  ·rw [List.flatMap_cons]
   have:=(d1.cellsAgg).append e1
   rw [h1] at this
   have hsplit : (cs.drop o).take (P.cellsOf f.type) ++ cs.drop (o + P.cellsOf f.type) = cs.drop o:=by
    rw [← List.drop_drop,List.take_append_drop]
   rwa [hsplit] at this
  ·cases i with
   | zero => simp at hi hd; subst hi; subst hd; exact d2
   | succ i => exact e3 i T' d (by simpa using hi) (by simpa using hd)
theorem reads_struct {fs : Array Field} {Ts : List (Dat → Prop)} (ht : P.underlying t = some (.struct fs)) (hl : laid P (P.cellsOf t) 0 fs.toList = true) (hn : fs.size = Ts.length)
  (he : ∀ (i : Nat) (f : Field) (T : Dat → Prop),fs[i]? = some f → Ts[i]? = some T → zgf7 P w f.type T) : zgf7 P w t (IsAgg Ts):=by
 intro H enc base spare held fuel cs x h
 obtain ⟨xs,n,_,_,hlen,hxs,hf⟩:=DataW.trod_struct ht h
 obtain ⟨ds,e1,e2,e3⟩:=reads_fields (w:=w) hlen fs.toList Ts 0 hl (by simpa using hn) fun i f T hi hT => by
  have hi' : fs[i]? = some f:=by simpa using hi
  have hlt : i < xs.length:=by rw [hxs]; exact (Array.getElem?_eq_some_iff.1 hi').1
  have:=hf i f hi'
  rw [List.getElem?_eq_getElem hlt] at this
  exact he i f T hi' hT H enc base spare held n _ _ this
 exact ⟨.agg (ds.flatMap Dat.cells),by simpa [RepD] using e1,ds,rfl,e2,e3⟩
end
end Go.Am

namespace Go.Am
open Go.RowKit Go.ChangeShapes Go.WideShapes
structure ArgOK (P : Program) (t : TypeId) (T : Dat → Prop) : Prop where
 rd : ∀ w,zgf7 P w t T
 agg : ∀ (w : World) (base : Nat) (v : Value),Value.okWide P w .any base t v → ∀ D,T D → zfc7 v = D.isAgg
 read : P.readableRec t = true
 row : t < P.types.size
def ArgsOK (P : Program) : List TypeId → List (Dat → Prop) → Prop
 | [],[] => True
 | t :: ts,T :: Ts => ArgOK P t T ∧ ArgsOK P ts Ts
 | _,_ => False
def AllD : List (Dat → Prop) → List Dat → Prop
 | [],[] => True
 | T :: Ts,D :: Ds => T D ∧ AllD Ts Ds
 | _,_ => False
theorem args_read {P : Program} {H : Type} {enc : TypeId × Value → H} {w : World} {base : Nat} : ∀ (ts : List TypeId) (Ts : List (Dat → Prop)) (vs : List Value) (ds : List (DataW H)) (ps : List MemPlace),
  ArgsOK P ts Ts → DataW.TrodAll enc P w 0 (fun _ => true) true ts vs ds ps → (∀ (j : Nat) t v,ts[j]? = some t → vs[j]? = some v → Value.okWide P w .any base t v) →
  ∃ Ds : List Dat,AllD Ts Ds ∧ RepL (ctx0 w) (Ds.map .dat) vs
 | [],[],vs,ds,ps,_,h,_ => by
  obtain ⟨rfl,rfl,rfl⟩:=trodAll_nil h
  exact ⟨[],trivial,rfl⟩
 | t :: ts,T :: Ts,vs,ds,ps,hA,h,hv => by
  obtain ⟨v,vs',d,ds',p,q,rfl,rfl,rfl,h0,hr⟩:=trodAll_cons h
  obtain ⟨a0,ar⟩:=hA
  obtain ⟨Ds,h1,h2⟩:=args_read ts Ts vs' ds' q ar hr fun j t v ht hvj => hv (j + 1) t v (by simpa using ht) (by simpa using hvj)
  obtain ⟨fuel,hf⟩:=h0
  obtain ⟨D,d1,d2⟩:=a0.rd w H enc 0 (fun _ => true) true fuel _ _ hf
  exact ⟨D :: Ds,⟨d2,h1⟩,v,vs',rfl,⟨d1,a0.agg w base v (hv 0 t v rfl rfl) D d2⟩,h2⟩
 | [],T :: Ts,_,_,_,h,_,_ => h.elim
 | t :: ts,[],_,_,_,h,_,_ => h.elim
theorem args_again {P : Program} {H : Type} {enc : TypeId × Value → H} {w w' : World} (hl : laidOutB P = true) (sp : Nat → Bool) : ∀ (ts : List TypeId) (Ts : List (Dat → Prop)) (vs : List Value) (ds : List (DataW H)) (ps : List MemPlace),
  ArgsOK P ts Ts → DataW.TrodAll enc P w 0 (fun _ => true) true ts vs ds ps → (∀ p ∈ ps,w.sameAt w' p) → (∀ p ∈ ps,sp p.block = true) → DataW.TrodAll enc P w' 0 sp true ts vs ds ps
 | [],[],vs,ds,ps,_,h,_,_ => by
  obtain ⟨rfl,rfl,rfl⟩:=trodAll_nil h
  exact trodAll_mk0
 | t :: ts,T :: Ts,vs,ds,ps,hA,h,hs,hp => by
  obtain ⟨v,vs',d,ds',p,q,rfl,rfl,rfl,h0,hr⟩:=trodAll_cons h
  obtain ⟨a0,ar⟩:=hA
  exact trodAll_cons_mk (WideElems.Trod_stays hl a0.read a0.row h0 (fun x hx => hs x (by simp [hx])) (fun x hx => hp x (by simp [hx])))
   (args_again hl sp ts Ts vs' ds' q ar hr (fun x hx => hs x (by simp [hx])) (fun x hx => hp x (by simp [hx])))
 | [],T :: Ts,_,_,_,h,_,_,_ => h.elim
 | t :: ts,[],_,_,_,h,_,_,_ => h.elim
theorem GrownL.same {w w' : World} (h : GrownL w w') {p : MemPlace} (hb : p.block < w.heap.size) : w.sameAt w' p:=by
 have hk:=h.1
 cases p with
 | cell b o => exact hk.cell hb (fun h => h)
 | map b =>
  show w'.heap[b]? = w.heap[b]?
  have hk:=hk.2.2 b hb
  split at hk
  ·rename_i c t fr c' t' fr' e1 e2
   obtain ⟨rfl,rfl,h3,h4⟩:=hk
   have : c' = c:=Array.ext_getElem? fun j => h4 j (fun h => h)
   rw [e1,e2,this]
  ·rename_i e1 e2
   rcases hk with hf | ⟨rfl,rfl⟩
   ·exact hf.elim
   ·rw [e1,e2]
  ·exact hk
theorem post_old {P : Program} {H : Type} {enc : TypeId × Value → H} {f : Func} {s : ChangeSpec} {apart fresh handsOn again : Bool} {W W' : World} {args : Array Value} {v : Value} {ds gs : List (DataW H)} {before pa pv : List MemPlace}
  (hW : DataW.Whole enc P f.params.toList s.vars apart W args.toList ds gs before)
  (h1 : ∀ (b : Nat) (sp : Nat → Bool) (hd : Bool),DataW.TrodAll enc P W' b sp hd f.resultTypes.toList (v.resultList f.resultTypes.size) (s.fn H (ds ++ gs)).results [])
  (h2 : ∀ sp : Nat → Bool,(∀ p ∈ before,sp p.block = true) → DataW.TrodAll enc P W' 0 sp true f.params.toList args.toList (s.fn H (ds ++ gs)).args pa)
  (h3 : ∀ sp : Nat → Bool,(∀ p ∈ before,sp p.block = true) → DataW.TrodVars enc P W' sp s.vars (s.fn H (ds ++ gs)).vars pv)
  (h4 : before = pa ++ pv) (h5 : W.keptBut W' (· ∈ before)) (h6 : ∀ a,a.block < W.heap.size → W'.frozen? a = W.frozen? a)
  (h7 : ∀ (j : Nat) (t : TypeId) (r : Value),f.resultTypes[j]? = some t → (v.resultList f.resultTypes.size)[j]? = some r → Value.okWide P W' .any 0 t r) :
  s.post enc P f apart fresh handsOn again W args v W':=by
 have lt:=hW.lt
 refine ⟨ds,gs,before,[],pa,pv,hW,h1 _ _ _,h2 (fun b => decide (b < W.heap.size)) (fun p hp => by simpa using lt p hp),h3 _ (fun p hp => by simpa using lt p hp),World.keptBut_mono (fun p hp => ⟨hp,.inr (List.mem_append.1 (h4 ▸ hp))⟩) h5,fun _ => ?_⟩
 obtain ⟨_,_,_,_,_,hz,hn⟩:=hW
 refine ⟨h7,_,_,([] ++ pa) ++ pv,⟨[] ++ pa,pv,trodAll_append (h2 _ (fun _ _ => rfl)) (h1 _ _ _),h3 _ (fun _ _ => rfl),rfl,fun b off hp => ?_,fun ha => by simpa [h4] using hn ha⟩,fun p hp _ => by simpa [h4] using hp⟩
 have hp' : MemPlace.cell b off ∈ before:=by rw [h4]; simpa using hp
 rw [h6 _ (lt _ hp')]
 exact hz b off hp'
theorem law_contract [Glob] {P : Program} {tbl : Tab} (ht : TblOK P tbl) (hl : laidOutB P = true) {f : FuncId} {fn : Func} {s : ChangeSpec} {Ts : List (Dat → Prop)} (hA : ArgsOK P fn.params.toList Ts)
  {tb : TypeId} (htb : P.underlying tb = some .bool) (hres : fn.resultTypes = #[tb]) (hvars : s.vars = [])
  (hfn : ∀ (H : Type) (ds : List (DataW H)),ds.length = fn.params.size → s.fn H ds = { results:=[.lit (.bool true)],args:=ds })
  {H : Type} {enc : TypeId × Value → H} {W : World} {base : Nat} {args : Array Value} {ds gs : List (DataW H)} {before : List MemPlace}
  (hG : GlobOK (allF W)) (hrun : ∀ Ds,AllD Ts Ds → RepL (ctx0 W) (Ds.map .dat) args.toList → ∃ os',callT tbl f (Ds.map .dat) [] = some (.dat (.bool true),os'))
  (hval : ∀ (j : Nat) t v,fn.params[j]? = some t → args[j]? = some v → Value.okWide P W .any base t v)
  (hW : DataW.Whole enc P fn.params.toList s.vars false W args.toList ds gs before) :
  Calls P f args W fun e W' => ∃ v,e = .returned v ∧ s.post enc P fn false true false false W args v W':=by
 have hW':=hW
 obtain ⟨p,q,hA0,hV,rfl,hfz,hnd⟩:=hW
 rw [hvars] at hV
 obtain ⟨rfl,rfl⟩:=trodVars_none hV
 obtain ⟨Ds,h1,h2⟩:=args_read _ _ _ _ _ hA hA0 fun j t v ht hv => hval j t v (by simpa using ht) (by simpa using hv)
 obtain ⟨os',ho⟩:=hrun Ds h1 h2
 refine (top_calls ht ho hG h2).mono fun e W1 ⟨he,hg⟩ => ?_
 have hlen : ∀ (ts : List TypeId) (vs : List Value) (ds : List (DataW H)) (ps : List MemPlace),DataW.TrodAll enc P W 0 (fun _ => true) true ts vs ds ps → ds.length = ts.length:=by
  intro ts
  induction ts with
  | nil => intro vs ds ps h; obtain ⟨rfl,rfl,rfl⟩:=trodAll_nil h; rfl
  | cons t ts ih =>
   intro vs ds ps h
   obtain ⟨v,vs',d,ds',p,q,rfl,rfl,rfl,_,hr⟩:=trodAll_cons h
   simp [ih _ _ _ hr]
 have hds:=hlen _ _ _ _ hA0
 have hs:=hfn H ds (by rw [hds]; simp)
 subst he
 refine ⟨_,rfl,post_old (pa:=p) (pv:=[]) hW' (fun b sp hd => ?_) (fun sp hsp => ?_) (fun _ _ => ?_) (by simp) (World.keptBut_mono (fun _ f => f.elim) hg.1) hg.2.1 (ok_one hres rfl (okWide_bool_mk htb _))⟩
 ·rw [List.append_nil,hs,hres]
  exact trodAll_cons_mk (shut_bool htb _) trodAll_mk0
 ·rw [List.append_nil,hs]
  exact args_again hl sp _ _ _ _ _ hA hA0 (fun x hx => GrownL.same hg (hW'.lt x (by simpa using hx))) (fun x hx => hsp x (by simpa using hx))
 ·rw [hvars,List.append_nil,hs]
  rfl
def flatW {H : Type} : DataW H → List Dat
 | .lit (.int k n) => [.int k n]
 | .lit (.bool b) => [.bool b]
 | .lit (.string s) => [.str s]
 | .agg l => flatWs l
 | _ => []
 where
 flatWs : List (DataW H) → List Dat
  | [] => []
  | d :: r => flatW d ++ flatWs r
def ReadsV (P : Program) (w : World) (t : TypeId) : Prop :=
 ∀ (H : Type) (enc : TypeId × Value → H) (base : Nat) (spare : Nat → Bool) (held : Bool) (fuel : Nat) (cs : List Value) (x : DataW H × List MemPlace),
  DataW.trod enc P w base spare held fuel t cs = some x → AggD (allF w) (flatW x.1) cs
section
variable {P : Program} {w : World} {t e : TypeId}
theorem zoe7 {k : IntKind} (ht : P.underlying t = some (.int k)) : ReadsV P w t:=by
 intro H enc base spare held fuel cs x h
 obtain ⟨n,rfl,hx,_⟩:=DataW.trod_int ht h
 rw [hx]
 simp [flatW,AggD,RepD]
theorem zxe7 (ht : P.underlying t = some .bool) : ReadsV P w t:=by
 intro H enc base spare held fuel cs x h
 obtain ⟨b,rfl,hx⟩:=DataW.trod_bool ht h
 rw [hx]
 simp [flatW,AggD,RepD]
theorem readsV_string (ht : P.underlying t = some .string) : ReadsV P w t:=by
 intro H enc base spare held fuel cs x h
 obtain ⟨s,rfl,hx,_⟩:=DataW.trod_string ht h
 rw [hx]
 simp [flatW,AggD,RepD]
theorem flatWs_cons {H : Type} (d : DataW H) (r : List (DataW H)) : flatW.flatWs (d :: r) = flatW d ++ flatW.flatWs r:=rfl
theorem readsV_fields {H : Type} {F : Froz} {cs : List Value} {total : Nat} (hlen : cs.length = total) : ∀ (fs : List Field) (o : Nat) (xs : List (DataW H × List MemPlace)),laid P total o fs = true → xs.length = fs.length →
  (∀ (i : Nat) (f : Field),fs[i]? = some f → ∃ x,xs[i]? = some x ∧ AggD F (flatW x.1) ((cs.drop f.offset).take (P.cellsOf f.type))) → AggD F (flatW.flatWs (xs.map (·.1))) (cs.drop o)
 | [],o,xs,hl,hn,h => by
  have : xs = []:=List.eq_nil_of_length_eq_zero (by simpa using hn)
  subst this
  simp only [laid,beq_iff_eq] at hl
  have : cs.drop o = []:=List.drop_of_length_le (by omega)
  rw [this]
  simp [flatW.flatWs,AggD]
 | f :: fs,o,[],hl,hn,h => by simp at hn
 | f :: fs,o,x :: xs,hl,hn,h => by
  simp only [laid,Bool.and_eq_true,beq_iff_eq] at hl
  obtain ⟨h1,h2⟩:=hl
  obtain ⟨x',hx,hd⟩:=h 0 f rfl
  simp only [List.getElem?_cons_zero,Option.some.injEq] at hx
  subst hx
  have ih:=readsV_fields hlen fs (o + P.cellsOf f.type) xs h2 (by simpa using hn) fun i f' hi => by
   have:=h (i + 1) f' (by simpa using hi)
   simpa using this
  simp only [List.map_cons,flatWs_cons]
  have e : cs.drop o = (cs.drop o).take (P.cellsOf f.type) ++ cs.drop (o + P.cellsOf f.type):=by
   rw [← List.drop_drop,List.take_append_drop]
  rw [e]
  rw [h1] at hd
  exact hd.append ih
theorem readsV_struct {fs : Array Field} (ht : P.underlying t = some (.struct fs)) (hl : laid P (P.cellsOf t) 0 fs.toList = true) (he : ∀ (i : Nat) (f : Field),fs[i]? = some f → ReadsV P w f.type) : ReadsV P w t:=by
 intro H enc base spare held fuel cs x h
 obtain ⟨xs,n,_,hx,hlen,hxs,hf⟩:=DataW.trod_struct ht h
 rw [hx]
 have:=readsV_fields (F:=allF w) hlen fs.toList 0 xs hl (by simpa using hxs) fun i f hi => by
  have hi' : fs[i]? = some f:=by simpa using hi
  have hlt : i < xs.length:=by rw [hxs]; exact (Array.getElem?_eq_some_iff.1 hi').1
  have:=hf i f hi'
  rw [List.getElem?_eq_getElem hlt] at this
  exact ⟨xs[i],List.getElem?_eq_getElem hlt,he i f hi' H enc base spare held n _ _ this⟩
 simpa [flatW] using this
theorem zee7 {n : Nat} (ht : P.underlying t = some (.array n e)) (hc : P.cellsOf t = n * P.cellsOf e) (he : ReadsV P w e) : ReadsV P w t:=by
 intro H enc base spare held fuel cs x h
 obtain ⟨xs,m,_,hx,hlen,hxs,hf⟩:=DataW.trod_array ht h
 rw [hx]
 have key : ∀ (k : Nat),k ≤ n → AggD (allF w) (flatW.flatWs ((xs.drop (n - k)).map (·.1))) (cs.drop ((n - k) * P.cellsOf e)):=by
  intro k
  induction k with
  | zero =>
   intro _
   rw [Nat.sub_zero,List.drop_of_length_le (by omega),List.drop_of_length_le (by omega)]
   simp [flatW.flatWs,AggD]
  | succ k ih =>
   intro hk
   have ih:=ih (by omega)
   have hlt : n - (k + 1) < xs.length:=by omega
   rw [List.drop_eq_getElem_cons hlt,List.map_cons,flatWs_cons]
   have h1:=hf (n - (k + 1)) (by omega)
   rw [List.getElem?_eq_getElem hlt] at h1
   have h2:=he H enc base spare held m _ _ h1
   have e1 : cs.drop ((n - (k + 1)) * P.cellsOf e) = (cs.drop ((n - (k + 1)) * P.cellsOf e)).take (P.cellsOf e) ++ cs.drop ((n - k) * P.cellsOf e):=by
    have : (n - k) * P.cellsOf e = (n - (k + 1)) * P.cellsOf e + P.cellsOf e:=by
     have : n - k = n - (k + 1) + 1:=by omega
     rw [this,Nat.add_mul]; omega
    rw [this,← List.drop_drop,List.take_append_drop]
   rw [e1]
   have e2 : n - (k + 1) + 1 = n - k:=by omega
   rw [e2]
   exact h2.append ih
 have:=key n (Nat.le_refl _)
 simpa [flatW] using this
end
theorem argStruct {P : Program} {t : TypeId} {fs : Array Field} {Ts : List (Dat → Prop)} (ht : P.underlying t = some (.struct fs)) (hl : laid P (P.cellsOf t) 0 fs.toList = true) (hn : fs.size = Ts.length)
  (he : ∀ w,∀ (i : Nat) (f : Field) (T : Dat → Prop),fs[i]? = some f → Ts[i]? = some T → zgf7 P w f.type T) (hr : P.readableRec t = true) (hs : t < P.types.size) : ArgOK P t (IsAgg Ts) :=
 ⟨fun w => reads_struct ht hl hn (he w),fun w base v hv D ⟨n,h,_⟩ => by obtain ⟨cs,rfl,_⟩:=okWide_struct ht hv; subst h; rfl,hr,hs⟩
end Go.Am
