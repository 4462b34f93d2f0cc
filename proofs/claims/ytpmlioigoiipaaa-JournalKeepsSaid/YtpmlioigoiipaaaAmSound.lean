/- The abstract machine: every operation but a call of a function is sound. -/
import Derived.Test.YtpmlioigoiipaaaAmStore
set_option linter.unusedVariables false
set_option linter.unusedSimpArgs false
namespace Go.Am

section
variable {P : Program} {o : Oper} {a : Act} {B : Base} {C : Ctx} {g : Nat → AVal} {K : Orc} {site : Nat} {m : Mk} {k : AK} {v : AVal} {upd : List (Id × Obj)}

theorem map_pair {α β : Type} {x : Option α} {f : α → β} {y : β} (h : x.map f = some y) : ∃ z, x = some z ∧ f z = y := by
  cases x with
  | none => cases h
  | some z => exact ⟨z, rfl, by simpa using h⟩

theorem snd_pair {x : Option AVal} (h : x.map (·, ([] : List (Id × Obj))) = some (v, upd)) : x = some v ∧ upd = [] := by
  obtain ⟨z, hz, he⟩ := map_pair h
  simp only [Prod.mk.injEq] at he
  exact ⟨by rw [hz, he.1], he.2.symm⟩

theorem zok_spec {q : TI} (h : q.zok = true) : (∃ l, q.zero = some l ∧ l.length = q.size) ∧ 1 ≤ q.size := by
  unfold TI.zok at h
  split at h
  · rename_i l hl
    simp only [Bool.and_eq_true, beq_iff_eq, decide_eq_true_eq] at h
    exact ⟨⟨l, hl, h.1⟩, h.2⟩
  · cases h

theorem elemT_spec {t e : TypeId} (h : elemT P t = some e) : P.underlying t = some (.slice e) := by
  unfold elemT at h
  split at h
  · rename_i e' he
    simp only [Option.some.injEq] at h
    subst h
    exact he
  · cases h

theorem bind_elem {t : TypeId} {q : TI} (h : (elemT P t).bind (tI P) = some q) : ∃ e, P.underlying t = some (.slice e) ∧ tI P e = some q := by
  cases e : elemT P t with
  | none => simp [e] at h
  | some e' => rw [e] at h; exact ⟨e', elemT_spec e, h⟩

theorem bind_elem2 {t : Option TypeId} {q : TI} (h : (t.bind (elemT P)).bind (tI P) = some q) : ∃ s e, t = some s ∧ P.underlying s = some (.slice e) ∧ tI P e = some q := by
  cases t with
  | none => simp at h
  | some s =>
    obtain ⟨e, h1, h2⟩ := bind_elem (t := s) (by simpa using h)
    exact ⟨s, e, rfl, h1, h2⟩

theorem cXs_one {xs : Array Operand} {ax : AX} (h : cXs xs = some [ax]) : ∃ x, xs = #[x] ∧ cX x = some ax := by
  have := allSome_spec h
  have hl := congrArg List.length this
  simp at hl
  cases xs with
  | mk l =>
    match l, hl with
    | [x], _ => exact ⟨x, rfl, by simpa using this⟩

theorem cXs_two {xs : Array Operand} {ax ay : AX} (h : cXs xs = some [ax, ay]) : ∃ x y, xs = #[x, y] ∧ cX x = some ax ∧ cX y = some ay := by
  have := allSome_spec h
  have hl := congrArg List.length this
  simp at hl
  cases xs with
  | mk l =>
    match l, hl with
    | [x, y], _ => exact ⟨x, y, rfl, by simpa using this⟩

theorem snd_mv (hI : Inv B C) (hE : RepE C g a) {x : Operand} (hop : o.op = .move x ∨ o.op = .assign x)
    (hc : cOp P m o = some k) (h : opE K site k g C.ρ = some (v, upd)) : Does P o a C.w (Owes B C v upd) := by
  have hc' : (if m.md = .d then (cX x).map .mv else
      match x with
      | .const (.slice none 0 0) => match (elemT P o.type).bind (tI P) with
        | some i => if 1 ≤ i.size then some (AK.mvNil m.md i.size) else none
        | none => none
      | _ => none) = some k := by
    rcases hop with hop | hop <;> simp only [cOp, hop] at hc <;> rw [← hc] <;> rfl
  replace hc := hc'
  split at hc
  · obtain ⟨ax, hx, rfl⟩ := map_pair hc
    simp only [opE, Option.some.injEq, Prod.mk.injEq] at h
    obtain ⟨rfl, rfl⟩ := h
    exact op_mv hI hE hop hx
  · split at hc
    · split at hc
      · rename_i i hi
        split at hc
        · rename_i hsz
          simp only [Option.some.injEq] at hc
          subst hc
          simp only [opE] at h
          split at h
          · cases h
          · rename_i nv hnv
            cases hmd : m.md <;> simp only [hmd] at h
            · cases h
            · rw [if_pos hsz] at h
              simp only [Option.some.injEq, Prod.mk.injEq] at h
              obtain ⟨rfl, rfl⟩ := h
              exact op_mvNil hI hop hnv hsz (.inl rfl)
            · simp only [Option.some.injEq, Prod.mk.injEq] at h
              obtain ⟨rfl, rfl⟩ := h
              exact op_mvNil hI hop hnv (Nat.le_refl 1) (.inr ⟨rfl, rfl⟩)
        · cases hc
      · cases hc
    · cases hc

theorem snd_bldS (hI : Inv B C) (hE : RepE C g a) {t : TypeId} {n : Nat} {parts : Array (Nat × Operand)} (hop : o.op = .buildSlice t n parts) (hc : cOp P m o = some k) (h : opE K site k g C.ρ = some (v, upd)) : Does P o a C.w (Owes B C v upd) := by
  simp only [cOp, hop] at hc
  split at hc
  · rename_i i xs hi hxs
    split at hc
    · rename_i hcond
      obtain ⟨c1, c2, c3, c4⟩ := hcond
      simp only [Option.some.injEq] at hc
      subst hc
      obtain ⟨e, e1, e2⟩ := bind_elem hi
      simp only [opE] at h
      cases hmd : m.md <;> simp only [hmd] at h
      · split at h
        · rename_i ds fs hds
          split at h
          · rename_i hw
            simp only [Option.some.injEq, Prod.mk.injEq] at h
            obtain ⟨rfl, rfl⟩ := h
            exact op_bldSd hI hE hop e1 e2 c4 hxs c1 c2 hds hw
          · cases h
        · cases h
      · split at h
        · rename_i ds fs hds
          split at h
          · rename_i hw
            split at h
            · rename_i nv hnv
              split at h
              · rename_i hh
                simp only [Option.some.injEq, Prod.mk.injEq] at h
                obtain ⟨rfl, rfl⟩ := h
                exact op_bldSo hI hE hop e1 e2 c3 c4 hxs c1 c2 hds hw hnv hh.2
              · cases h
            · cases h
          · cases h
        · cases h
      · split at h
        · rename_i hh
          simp only [Option.some.injEq, Prod.mk.injEq] at h
          obtain ⟨rfl, rfl⟩ := h
          exact op_bldSr hI hE hop e1 e2 hh.1 c4 hxs c1 (by omega) hh.2
        · cases h
    · cases hc
  · cases hc

theorem snd_mk (hI : Inv B C) (hE : RepE C g a) {t : TypeId} {l c : Operand} (hop : o.op = .makeSlice t l c) (hc : cOp P m o = some k) (h : opE K site k g C.ρ = some (v, upd)) : Does P o a C.w (Owes B C v upd) := by
  simp only [cOp, hop] at hc
  split at hc
  · rename_i i al ac hi hl hcc
    obtain ⟨zero, hz, rfl⟩ := map_pair hc
    obtain ⟨e, e1, e2⟩ := bind_elem hi
    simp only [opE] at h
    split at h
    · rename_i ln cn hln hcn
      split at h
      · rename_i hb
        cases hmd : m.md <;> simp only [hmd] at h
        · split at h
          · rename_i z hzd
            split at h
            · rename_i hw
              simp only [Option.some.injEq, Prod.mk.injEq] at h
              obtain ⟨rfl, rfl⟩ := h
              exact op_mkd hI hE hop hl hcc e1 e2 hz hln hcn hb hzd hw
            · cases h
          · cases h
        · split at h
          · rename_i z hzd
            split at h
            · rename_i hw
              split at h
              · cases h
              · rename_i nv hnv
                simp only [Option.some.injEq, Prod.mk.injEq] at h
                obtain ⟨rfl, rfl⟩ := h
                exact op_mko hI hE hop hl hcc e1 e2 hz hln hcn hb hzd hw hnv
            · cases h
          · cases h
        · split at h
          · rename_i z nv hnv
            split at h
            · rename_i hh
              simp only [Option.some.injEq, Prod.mk.injEq] at h
              obtain ⟨rfl, rfl⟩ := h
              exact op_mkr hI hE hop hl hcc e1 e2 hz hln hcn hb hh.1 hh.2.1 hnv hh.2.2
            · cases h
          · cases h
      · cases h
    · cases h
  · cases hc

theorem snd_app (hI : Inv B C) (hE : RepE C g a) {c : Call} {ax ay : AX} {q : TI} {md : Md} (hop : o.op = .call c) (hcal : c.callee = .builtin .append) (hargs : cXs c.args = some [ax, ay]) (hq : ((c.argTypes[0]?).bind (elemT P)).bind (tI P) = some q)
    (hxt : (∃ e', (c.argTypes[1]?).bind P.underlying = some (.slice e')) ∨ (c.argTypes[1]?).bind P.underlying = some .string) (hz : q.zok = true)
    (h : opE K site (.app md q.size q.bytes ax ay) g C.ρ = some (v, upd)) : Does P o a C.w (Owes B C v upd) := by
  obtain ⟨x, y, ha, hx, hy⟩ := cXs_two hargs
  obtain ⟨sT, e, h0, hs, hqe⟩ := bind_elem2 hq
  obtain ⟨hzl, hsz⟩ := zok_spec hz
  obtain ⟨xT, h1, hxT⟩ : ∃ xT, c.argTypes[1]? = some xT ∧ ((∃ e', P.underlying xT = some (.slice e')) ∨ P.underlying xT = some .string) := by
    cases e1 : c.argTypes[1]? with
    | none => simp [e1] at hxt
    | some xT => exact ⟨xT, rfl, by simpa [e1] using hxt⟩
  simp only [opE] at h
  split at h
  · rename_i id ver sz' off len hX
    split at h
    · rename_i sz'' ver' es hρ
      split at h
      · rename_i ds hds
        split at h
        · rename_i hcond
          obtain ⟨rfl, rfl, rfl, rfl, hlen, hroom⟩ := hcond
          have := op_app hI hE hop hcal ha h0 h1 hs hxT hqe hzl hx hy hX hρ hds hlen hroom
          split at h
          · rename_i hd
            simp only [Option.some.injEq, Prod.mk.injEq] at h
            obtain ⟨rfl, rfl⟩ := h
            simpa only [hd, if_true] using this
          · rename_i hd
            simp only [Option.some.injEq, Prod.mk.injEq] at h
            obtain ⟨rfl, rfl⟩ := h
            simpa only [hd, if_false] using this
        · cases h
      · cases h
    · rename_i ver' es hρ
      split at h
      · rename_i ws hY
        split at h
        · rename_i hcond
          obtain ⟨rfl, e1, e2, rfl, hlen, hd, hroom⟩ := hcond
          simp only [Option.some.injEq, Prod.mk.injEq] at h
          obtain ⟨rfl, rfl⟩ := h
          rw [e2] at e1
          subst e1
          exact op_appR hI hE hop hcal ha h0 h1 hs hxT hqe hzl e2 hx hy hX hρ hY hlen hd hroom
        · cases h
      · cases h
    · cases h
  · rename_i hX
    split at h
    · split at h
      · rename_i ws nv hY hnv
        split at h
        · rename_i hcond
          obtain ⟨e2, hd, hroom⟩ := hcond
          simp only [Option.some.injEq, Prod.mk.injEq] at h
          obtain ⟨rfl, rfl⟩ := h
          exact op_appNilR hI hE hop hcal ha h0 h1 hs hxT hqe hzl e2 hx hy hX hY hnv hd hroom
        · cases h
      · cases h
    · split at h
      · rename_i ds nv hds hnv
        split at h
        · rename_i hcond
          obtain ⟨_, hd, hroom⟩ := hcond
          simp only [Option.some.injEq, Prod.mk.injEq] at h
          obtain ⟨rfl, rfl⟩ := h
          exact op_appNil hI hE hop hcal ha h0 h1 hs hxT hqe hzl hsz hx hy hX hds hnv hd hroom
        · cases h
      · cases h
  · cases h

theorem snd_builtin (hI : Inv B C) (hE : RepE C g a) {c : Call} (hop : o.op = .call c) (hk : ∀ f args sc, k ≠ .call f args sc) (hc : cOp P m o = some k) (h : opE K site k g C.ρ = some (v, upd)) : Does P o a C.w (Owes B C v upd) := by
  simp only [cOp, hop] at hc
  split at hc
  · rename_i ax hcal hargs
    obtain ⟨x, ha, hx⟩ := cXs_one hargs
    split at hc
    · rename_i e hu
      simp only [Option.some.injEq] at hc
      subst hc
      simp only [opE, Bool.false_eq_true, if_false] at h
      obtain ⟨hv, rfl⟩ := snd_pair h
      cases e0 : c.argTypes[0]? with
      | none => simp [e0] at hu
      | some t => exact op_len hI hE hop hcal ha e0 (by simpa [e0] using hu) hx hv
    · rename_i hu
      simp only [Option.some.injEq] at hc
      subst hc
      simp only [opE, if_true] at h
      obtain ⟨hv, rfl⟩ := snd_pair h
      cases e0 : c.argTypes[0]? with
      | none => simp [e0] at hu
      | some t => exact op_lenS hI hE hop hcal ha e0 (by simpa [e0] using hu) hx hv
    · cases hc
  · rename_i ax ay hcal hargs
    split at hc
    · rename_i q e' hq hxt
      split at hc
      · rename_i hz
        simp only [Option.some.injEq] at hc
        subst hc
        exact snd_app hI hE hop hcal hargs hq (.inl ⟨e', hxt⟩) hz h
      · cases hc
    · rename_i q hq hxt
      split at hc
      · rename_i hz
        simp only [Option.some.injEq] at hc
        subst hc
        exact snd_app hI hE hop hcal hargs hq (.inr hxt) hz h
      · cases hc
    · cases hc
  · rename_i ax ay hcal hargs
    obtain ⟨x, y, ha, hx, hy⟩ := cXs_two hargs
    split at hc
    · rename_i q hq
      simp only [Option.some.injEq] at hc
      subst hc
      obtain ⟨sT, e, h0, hs, hqe⟩ := bind_elem2 hq
      simp only [opE] at h
      split at h
      · rename_i id ver sz' off len ds hX hds
        split at h
        · rename_i sz'' ver' es hρ
          split at h
          · rename_i hcond
            obtain ⟨rfl, rfl, rfl, hb⟩ := hcond
            simp only [Option.some.injEq, Prod.mk.injEq] at h
            obtain ⟨rfl, rfl⟩ := h
            exact op_cpy hI hE hop hcal ha h0 hs hqe hx hy hX hρ hds hb
          · cases h
        · cases h
      · cases h
    · cases hc
  · rename_i ax hcal hargs
    obtain ⟨x, ha, hx⟩ := cXs_one hargs
    split at hc
    · rename_i q hq
      split at hc
      case isFalse => cases hc
      rename_i hzk
      replace hzk := zok_spec hzk
      obtain ⟨zero, hz, rfl⟩ := map_pair hc
      obtain ⟨sT, e, h0, hs, hqe⟩ := bind_elem2 hq
      simp only [opE] at h
      split at h
      · rename_i id ver sz off len z hX hzd
        split at h
        · rename_i sz' ver' es hρ
          split at h
          · rename_i hcond
            obtain ⟨rfl, rfl, hb, hw⟩ := hcond
            simp only [Option.some.injEq, Prod.mk.injEq] at h
            obtain ⟨rfl, rfl⟩ := h
            have hrx := cX_rep hE hx
            rw [hX] at hrx
            obtain ⟨o1, _⟩ := hI.objs id _ hρ
            have hszq : sz = q.size := by
              obtain ⟨zv, hzv, hcs⟩ := tI_zero hqe hz
              have h1 := (zeroDat_rep (F := C.F) hzd hcs).length
              have h2 := congrArg List.length (allSome_spec hcs)
              obtain ⟨l, hl1, hl2⟩ := hzk.1
              rw [hz] at hl1
              cases hl1
              simp at h2 h1
              omega
            subst hszq
            exact op_clr hI hE hop hcal ha h0 hs hqe hz hzd hw hx hX hρ hb
          · cases h
        · cases h
      · cases h
    · cases hc
  · rename_i ax r hcal hargs
    simp only [Option.some.injEq] at hc
    subst hc
    simp only [opE] at h
    obtain ⟨hv, rfl⟩ := snd_pair h
    exact op_mm (isMax := true) hI hE hop hcal hargs hv
  · rename_i ax r hcal hargs
    simp only [Option.some.injEq] at hc
    subst hc
    simp only [opE] at h
    obtain ⟨hv, rfl⟩ := snd_pair h
    exact op_mm (isMax := false) hI hE hop hcal hargs hv
  · split at hc
    · split at hc
      · simp only [Option.some.injEq] at hc
        exact absurd hc.symm (hk _ _ _)
      · cases hc
    · cases hc
  · cases hc


/-- every operation but a call of a function -/
theorem op_sound (hI : Inv B C) (hE : RepE C g a) (hk : ∀ f args sc, k ≠ .call f args sc) (hc : cOp P m o = some k) (h : opE K site k g C.ρ = some (v, upd)) : Does P o a C.w (Owes B C v upd) := by
  cases hop : o.op with
  | move x => exact snd_mv hI hE (.inl hop) hc h
  | assign x => exact snd_mv hI hE (.inr hop) hc h
  | pick c x y =>
    simp only [cOp, hop] at hc
    split at hc
    · rename_i ac ax ay hc' hx hy
      simp only [Option.some.injEq] at hc
      subst hc
      simp only [opE] at h
      split at h
      · rename_i t ht
        simp only [Option.some.injEq, Prod.mk.injEq] at h
        obtain ⟨rfl, rfl⟩ := h
        exact op_pick hI hE hop hc' hx hy ht
      · cases h
    · cases hc
  | nilCheck x =>
    simp only [cOp, hop] at hc
    obtain ⟨ax, hx, rfl⟩ := map_pair hc
    simp only [opE] at h
    split at h <;> (try (cases h; done)) <;> simp only [Option.some.injEq, Prod.mk.injEq] at h <;> obtain ⟨rfl, rfl⟩ := h
    · rename_i id off e; rw [← e]; exact op_nilChk hI hE hop hx (.inl ⟨_, _, e⟩)
    · rename_i id ver i off e; rw [← e]; exact op_nilChk hI hE hop hx (.inr (.inl ⟨_, _, _, _, e⟩))
    · rename_i l e; rw [← e]; exact op_nilChk hI hE hop hx (.inr (.inr ⟨_, e⟩))
  | binOp op t x y u =>
    simp only [cOp, hop] at hc
    split at hc
    · rename_i bk ax ay hb hx hy
      simp only [Option.some.injEq] at hc
      subst hc
      simp only [opE] at h
      obtain ⟨hv, rfl⟩ := snd_pair h
      exact op_bin hI hE hop hb hx hy hv
    · cases hc
  | unOp op t x =>
    simp only [cOp, hop] at hc
    obtain ⟨ax, hx, rfl⟩ := map_pair hc
    simp only [opE] at h
    obtain ⟨hv, rfl⟩ := snd_pair h
    exact op_un hI hE hop hx hv
  | convert s d x =>
    simp only [cOp, hop] at hc
    split at hc
    · rename_i k1 k2 ax hs hd hx
      simp only [Option.some.injEq] at hc
      subst hc
      simp only [opE] at h
      split at h
      · rename_i k3 n hn
        simp only [Option.some.injEq, Prod.mk.injEq] at h
        obtain ⟨rfl, rfl⟩ := h
        exact op_cvt hI hE hop hx hs hd hn
      · cases h
    · rename_i e ax hs hd hx
      split at hc
      · rename_i i he hi
        split at hc
        · simp only [Option.some.injEq] at hc
          subst hc
          simp only [opE] at h
          split at h
          · rename_i l hl
            split at h
            · rename_i r hr
              simp only [Option.some.injEq, Prod.mk.injEq] at h
              obtain ⟨rfl, rfl⟩ := h
              exact op_b2s hI hE hop hx hs he hd hl hr
            · cases h
          · cases h
        · cases hc
      · cases hc
    · cases hc
  | fieldAddr t x f =>
    simp only [cOp, hop] at hc
    split at hc
    · rename_i off i ax hf hx
      split at hc
      · cases hc
      · rename_i hq
        simp only [Option.some.injEq] at hc
        subst hc
        simp only [opE] at h
        obtain ⟨hv, rfl⟩ := snd_pair h
        exact op_fAddr hI hE hop hx hf hq hv
    · cases hc
  | field t x f =>
    simp only [cOp, hop] at hc
    split at hc
    · rename_i off i ax hf hx
      split at hc
      · rename_i hq
        simp only [Option.some.injEq] at hc
        subst hc
        simp only [opE] at h
        obtain ⟨hv, rfl⟩ := snd_pair h
        exact op_fld hI hE hop hx hf hq hv
      · cases hc
    · cases hc
  | indexAddr t x i =>
    simp only [cOp, hop] at hc
    split at hc
    · rename_i e ax ai ht hx hi
      obtain ⟨q, hq, rfl⟩ := map_pair hc
      simp only [opE] at h
      split at h
      · rename_i n hn
        obtain ⟨hv, rfl⟩ := snd_pair h
        exact op_iAddr hI hE hop hx hi ht hq hn hv
      · cases h
    · rename_i n e ax ai ht hx hi
      obtain ⟨q, hq, rfl⟩ := map_pair hc
      simp only [opE] at h
      split at h
      · rename_i n' hn
        split at h
        · rename_i hb
          obtain ⟨hv, rfl⟩ := snd_pair h
          exact op_iAddrA hI hE hop hx hi ht hq hn hb hv
        · cases h
      · cases h
    · cases hc
  | index t x i =>
    simp only [cOp, hop] at hc
    split at hc
    · rename_i n e ax ai ht hx hi
      split at hc
      · rename_i q hq
        split at hc
        · rename_i hq1
          simp only [Option.some.injEq] at hc
          subst hc
          simp only [opE] at h
          split at h
          · rename_i n' hn
            split at h
            · rename_i hb
              obtain ⟨hv, rfl⟩ := snd_pair h
              exact op_idx hI hE hop hx hi ht hq hq1 hn hb hv
            · cases h
          · cases h
        · cases hc
      · cases hc
    · rename_i ax ai ht hx hi
      simp only [Option.some.injEq] at hc
      subst hc
      simp only [opE] at h
      split at h
      · rename_i s i' hs hn
        split at h
        · rename_i h0
          obtain ⟨b, hb, he⟩ := map_pair h
          simp only [Prod.mk.injEq] at he
          obtain ⟨rfl, rfl⟩ := he
          exact op_idxS hI hE hop hx hi ht hn hs h0 hb
        · cases h
      · cases h
    · cases hc
  | extract x i =>
    simp only [cOp, hop] at hc
    obtain ⟨ax, hx, rfl⟩ := map_pair hc
    simp only [opE] at h
    split at h
    · rename_i l hl
      obtain ⟨hv, rfl⟩ := snd_pair h
      exact op_ext hI hE hop hx hl hv
    · cases h
  | load t x =>
    simp only [cOp, hop] at hc
    split at hc
    · rename_i i ax hq hx
      split at hc
      · rename_i hq1
        simp only [Option.some.injEq] at hc
        subst hc
        simp only [opE] at h
        obtain ⟨hv, rfl⟩ := snd_pair h
        exact op_ld hI hE hop hx hq hq1 hv
      · cases hc
    · cases hc
  | store t x y =>
    simp only [cOp, hop] at hc
    split at hc
    · rename_i i ax ay hq hx hy
      split at hc
      · rename_i hq1
        simp only [Option.some.injEq] at hc
        subst hc
        simp only [opE] at h
        obtain ⟨u, hu, he⟩ := map_pair h
        simp only [Prod.mk.injEq] at he
        obtain ⟨rfl, rfl⟩ := he
        exact op_st hI hE hop hx hy hq hq1 hu
      · cases hc
    · cases hc
  | box t x =>
    simp only [cOp, hop] at hc
    split at hc
    · rename_i i ax hq hx
      simp only [Option.some.injEq] at hc
      subst hc
      simp only [opE] at h
      split at h
      · cases h
      · rename_i hid
        split at h
        · rename_i hh
          simp only [Option.some.injEq, Prod.mk.injEq] at h
          obtain ⟨rfl, rfl⟩ := h
          exact op_box hI hE hop hx hid hh.2
        · cases h
    · cases hc
  | alloc t =>
    simp only [cOp, hop] at hc
    split at hc
    · rename_i i hq
      obtain ⟨z, hz, rfl⟩ := map_pair hc
      simp only [opE] at h
      split at h
      · cases h
      · rename_i hid
        simp only [Option.some.injEq, Prod.mk.injEq] at h
        obtain ⟨rfl, rfl⟩ := h
        exact op_alc hI hop hq hz hid
    · cases hc
  | build t parts =>
    simp only [cOp, hop] at hc
    split at hc
    · rename_i i ps hq hps
      split at hc
      · rename_i hst
        obtain ⟨z, hz, rfl⟩ := map_pair hc
        simp only [opE] at h
        obtain ⟨cs, hcs, he⟩ := map_pair h
        simp only [Prod.mk.injEq] at he
        obtain ⟨rfl, rfl⟩ := he
        refine op_bld hI hE hop hq hz hps ?_ hcs
        unfold structOk at hst
        split at hst
        · rename_i fs hu
          exact ⟨fs, hu, fun fd hfd => by rw [List.all_eq_true] at hst; exact hst fd hfd⟩
        · cases hst
      · cases hc
    · cases hc
  | buildSlice t n parts => exact snd_bldS hI hE hop hc h
  | makeSlice t l c => exact snd_mk hI hE hop hc h
  | slice t x lo hi mx =>
    cases mx with
    | some _ => simp only [cOp, hop] at hc; cases hc
    | none =>
      simp only [cOp, hop] at hc
      split at hc
      · rename_i str sz ax alo ahi hty hx hlo hhi
        simp only [Option.some.injEq] at hc
        subst hc
        have hlo' : optX lo = some alo := by cases lo <;> exact hlo
        have hhi' : optX hi = some ahi := by cases hi <;> exact hhi
        simp only [opE] at h
        split at h
        · rename_i l hh hl hhv
          obtain ⟨hv, rfl⟩ := snd_pair h
          split at hty
          · rename_i ht
            simp only [Option.some.injEq, Prod.mk.injEq] at hty
            obtain ⟨rfl, rfl⟩ := hty
            simp only [if_true] at hv
            exact op_slcS hI hE hop hx hlo' hhi' ht (by cases alo <;> exact hl) (by cases ahi <;> exact hhv) hv
          · rename_i e ht
            obtain ⟨q, hq, he⟩ := map_pair hty
            simp only [Prod.mk.injEq] at he
            obtain ⟨rfl, rfl⟩ := he
            simp only [Bool.false_eq_true, if_false] at hv
            exact op_slc hI hE hop hx hlo' hhi' ht hq (by cases alo <;> exact hl) (by cases ahi <;> exact hhv) hv
          · cases hty
        · cases h
      · cases hc
  | call c => exact snd_builtin hI hE hop hk hc h
  | _ => simp only [cOp, hop] at hc; cases hc

end
end Go.Am
