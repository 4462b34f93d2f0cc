/- The abstract machine: what it answers for all data of the right shape, a law says of all arguments. -/
import Derived.Test.YtpmlioigoiipaaaAmRead
import Derived.WideKeyArgs
import Derived.JoinedOf
import Derived.OpenShut
set_option linter.unusedVariables false
namespace Go.Am
open Go.RowKit Go.ChangeShapes Go.WideShapes

structure ArgOK (P : Program) (t : TypeId) (T : Dat → Prop) : Prop where
  rd : ∀ w, ReadsAs P w t T
  agg : ∀ (w : World) (base : Nat) (v : Value), Value.okWide P w .any base t v → ∀ D, T D → isAggV v = D.isAgg
  read : P.readableRec t = true
  row : t < P.types.size

def ArgsOK (P : Program) : List TypeId → List (Dat → Prop) → Prop
  | [], [] => True
  | t :: ts, T :: Ts => ArgOK P t T ∧ ArgsOK P ts Ts
  | _, _ => False

def AllD : List (Dat → Prop) → List Dat → Prop
  | [], [] => True
  | T :: Ts, D :: Ds => T D ∧ AllD Ts Ds
  | _, _ => False

theorem args_read {P : Program} {H : Type} {enc : TypeId × Value → H} {w : World} {base : Nat} : ∀ (ts : List TypeId) (Ts : List (Dat → Prop)) (vs : List Value) (ds : List (DataW H)) (ps : List MemPlace),
    ArgsOK P ts Ts → DataW.TrodAll enc P w 0 (fun _ => true) true ts vs ds ps → (∀ (j : Nat) t v, ts[j]? = some t → vs[j]? = some v → Value.okWide P w .any base t v) →
    ∃ Ds : List Dat, AllD Ts Ds ∧ RepL (ctx0 w) (Ds.map .dat) vs
  | [], [], vs, ds, ps, _, h, _ => by
    obtain ⟨rfl, rfl, rfl⟩ := trodAll_nil h
    exact ⟨[], trivial, rfl⟩
  | t :: ts, T :: Ts, vs, ds, ps, hA, h, hv => by
    obtain ⟨v, vs', d, ds', p, q, rfl, rfl, rfl, h0, hr⟩ := trodAll_cons h
    obtain ⟨a0, ar⟩ := hA
    obtain ⟨Ds, h1, h2⟩ := args_read ts Ts vs' ds' q ar hr fun j t v ht hvj => hv (j + 1) t v (by simpa using ht) (by simpa using hvj)
    obtain ⟨fuel, hf⟩ := h0
    obtain ⟨D, d1, d2⟩ := a0.rd w H enc 0 (fun _ => true) true fuel _ _ hf
    exact ⟨D :: Ds, ⟨d2, h1⟩, v, vs', rfl, ⟨d1, a0.agg w base v (hv 0 t v rfl rfl) D d2⟩, h2⟩
  | [], T :: Ts, _, _, _, h, _, _ => h.elim
  | t :: ts, [], _, _, _, h, _, _ => h.elim

theorem args_again {P : Program} {H : Type} {enc : TypeId × Value → H} {w w' : World} (hl : laidOutB P = true) (sp : Nat → Bool) : ∀ (ts : List TypeId) (Ts : List (Dat → Prop)) (vs : List Value) (ds : List (DataW H)) (ps : List MemPlace),
    ArgsOK P ts Ts → DataW.TrodAll enc P w 0 (fun _ => true) true ts vs ds ps → (∀ p ∈ ps, w.sameAt w' p) → (∀ p ∈ ps, sp p.block = true) → DataW.TrodAll enc P w' 0 sp true ts vs ds ps
  | [], [], vs, ds, ps, _, h, _, _ => by
    obtain ⟨rfl, rfl, rfl⟩ := trodAll_nil h
    exact trodAll_mk0
  | t :: ts, T :: Ts, vs, ds, ps, hA, h, hs, hp => by
    obtain ⟨v, vs', d, ds', p, q, rfl, rfl, rfl, h0, hr⟩ := trodAll_cons h
    obtain ⟨a0, ar⟩ := hA
    exact trodAll_cons_mk (WideElems.Trod_stays hl a0.read a0.row h0 (fun x hx => hs x (by simp [hx])) (fun x hx => hp x (by simp [hx])))
      (args_again hl sp ts Ts vs' ds' q ar hr (fun x hx => hs x (by simp [hx])) (fun x hx => hp x (by simp [hx])))
  | [], T :: Ts, _, _, _, h, _, _, _ => h.elim
  | t :: ts, [], _, _, _, h, _, _, _ => h.elim

theorem Grown.same {w w' : World} (h : Grown w w') {p : MemPlace} (hb : p.block < w.heap.size) : w.sameAt w' p := by
  have hk := h.1
  cases p with
  | cell b o => exact hk.cell hb (fun h => h)
  | map b =>
    show w'.heap[b]? = w.heap[b]?
    have hk := hk.2.2 b hb
    split at hk
    · rename_i c t fr c' t' fr' e1 e2
      obtain ⟨rfl, rfl, h3, h4⟩ := hk
      have : c' = c := Array.ext_getElem? fun j => h4 j (fun h => h)
      rw [e1, e2, this]
    · rename_i e1 e2
      rcases hk with hf | ⟨rfl, rfl⟩
      · exact hf.elim
      · rw [e1, e2]
    · exact hk

/-- THE CONTRACT OF A LAW: true, and nothing turned. -/
theorem law_contract {P : Program} {tbl : FuncId → Option AFun} (ht : TblOK P tbl) (hl : laidOutB P = true) {f : FuncId} {fn : Func} {s : ChangeSpec} {Ts : List (Dat → Prop)} (hA : ArgsOK P fn.params.toList Ts)
    {tb : TypeId} (htb : P.underlying tb = some .bool) (hres : fn.resultTypes = #[tb]) (hvars : s.vars = [])
    (hfn : ∀ (H : Type) (ds : List (DataW H)), ds.length = fn.params.size → s.fn H ds = { results := [.lit (.bool true)], args := ds })
    {H : Type} {enc : TypeId × Value → H} {W : World} {base : Nat} {args : Array Value} {ds gs : List (DataW H)} {before : List MemPlace}
    (hrun : ∀ Ds, AllD Ts Ds → RepL (ctx0 W) (Ds.map .dat) args.toList → ∃ os', callT tbl f (Ds.map .dat) [] = some (.dat (.bool true), os'))
    (hval : ∀ (j : Nat) t v, fn.params[j]? = some t → args[j]? = some v → Value.okWide P W .any base t v)
    (hW : DataW.Whole enc P fn.params.toList s.vars false W args.toList ds gs before) :
    Calls P f args W fun e W' => ∃ v, e = .returned v ∧ s.post enc P fn false true false false W args v W' := by
  have hW' := hW
  obtain ⟨p, q, hA0, hV, rfl, hfz, hnd⟩ := hW
  rw [hvars] at hV
  obtain ⟨rfl, rfl⟩ := trodVars_none hV
  obtain ⟨Ds, h1, h2⟩ := args_read _ _ _ _ _ hA hA0 fun j t v ht hv => hval j t v (by simpa using ht) (by simpa using hv)
  obtain ⟨os', ho⟩ := hrun Ds h1 h2
  refine (top_calls ht ho h2).mono fun e W1 ⟨he, hg⟩ => ?_
  have hlen : ∀ (ts : List TypeId) (vs : List Value) (ds : List (DataW H)) (ps : List MemPlace), DataW.TrodAll enc P W 0 (fun _ => true) true ts vs ds ps → ds.length = ts.length := by
    intro ts
    induction ts with
    | nil => intro vs ds ps h; obtain ⟨rfl, rfl, rfl⟩ := trodAll_nil h; rfl
    | cons t ts ih =>
      intro vs ds ps h
      obtain ⟨v, vs', d, ds', p, q, rfl, rfl, rfl, _, hr⟩ := trodAll_cons h
      simp [ih _ _ _ hr]
  have hds := hlen _ _ _ _ hA0
  have hs := hfn H ds (by rw [hds]; simp)
  subst he
  refine ⟨_, rfl, post_of_same (pa := p) (pv := []) hW' (fun b sp hd => ?_) (fun sp hsp => ?_) (fun _ _ => ?_) (by simp) (hg.frame _) hg.2.1 (ok_one hres rfl (okWide_bool_mk htb _))⟩
  · rw [List.append_nil, hs, hres]
    exact trodAll_cons_mk (shut_bool htb _) trodAll_mk0
  · rw [List.append_nil, hs]
    exact args_again hl sp _ _ _ _ _ hA hA0 (fun x hx => Grown.same hg (hW'.lt x (by simpa using hx))) (fun x hx => hsp x (by simpa using hx))
  · rw [hvars, List.append_nil, hs]
    rfl

theorem argInt {P : Program} {t : TypeId} {k : IntKind} (ht : P.underlying t = some (.int k)) (hr : P.readableRec t = true) (hs : t < P.types.size) : ArgOK P t (IsInt k) :=
  ⟨fun w => reads_int ht, fun w base v hv D ⟨n, h, _⟩ => by obtain ⟨n', rfl⟩ := okWide_int ht hv; subst h; rfl, hr, hs⟩
theorem argBool {P : Program} {t : TypeId} (ht : P.underlying t = some .bool) (hr : P.readableRec t = true) (hs : t < P.types.size) : ArgOK P t IsBool :=
  ⟨fun w => reads_bool ht, fun w base v hv D ⟨n, h⟩ => by obtain ⟨n', rfl⟩ := okWide_bool ht hv; subst h; rfl, hr, hs⟩
theorem argStr {P : Program} {t : TypeId} (ht : P.underlying t = some .string) (hr : P.readableRec t = true) (hs : t < P.types.size) : ArgOK P t IsStr :=
  ⟨fun w => reads_string ht, fun w base v hv D ⟨n, h, _⟩ => by obtain ⟨n', rfl⟩ := okWide_string ht hv; subst h; rfl, hr, hs⟩
theorem argSlice {P : Program} {t e : TypeId} {T : Dat → Prop} (ht : P.underlying t = some (.slice e)) (hc : 0 < P.cellsOf e) (he : ∀ w, ReadsAs P w e T) (hr : P.readableRec t = true) (hs : t < P.types.size) : ArgOK P t (IsSl T) :=
  ⟨fun w => reads_slice ht hc (he w), fun w base v hv D ⟨n, h, _⟩ => by obtain ⟨a, l, c, rfl⟩ := okWide_slice ht hv; subst h; rfl, hr, hs⟩
theorem argStruct {P : Program} {t : TypeId} {fs : Array Field} {Ts : List (Dat → Prop)} (ht : P.underlying t = some (.struct fs)) (hl : laid P (P.cellsOf t) 0 fs.toList = true) (hn : fs.size = Ts.length)
    (he : ∀ w, ∀ (i : Nat) (f : Field) (T : Dat → Prop), fs[i]? = some f → Ts[i]? = some T → ReadsAs P w f.type T) (hr : P.readableRec t = true) (hs : t < P.types.size) : ArgOK P t (IsAgg Ts) :=
  ⟨fun w => reads_struct ht hl hn (he w), fun w base v hv D ⟨n, h, _⟩ => by obtain ⟨cs, rfl, _⟩ := okWide_struct ht hv; subst h; rfl, hr, hs⟩

end Go.Am
