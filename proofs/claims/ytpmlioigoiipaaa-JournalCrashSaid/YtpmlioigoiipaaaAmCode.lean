/- The abstract machine: code in the order of the text is sound. -/
import Derived.Test.YtpmlioigoiipaaaAmCall
import Derived.Test.YtpmlioigoiipaaaAmRegion
import Derived.Orders
set_option linter.unusedVariables false
set_option linter.unusedSimpArgs false
namespace Go.Am

theorem gO_pO : ∀ (s : Store) (i : Id) (o : Obj) (j : Id), gO (pO s i o) j = if i = j then some o else gO s j
  | [], i, o, j => by simp [pO, gO]
  | (i', o') :: r, i, o, j => by
    simp only [pO]
    split
    · rename_i e
      subst e
      simp only [gO]
      split <;> rfl
    · rename_i e
      simp only [gO, gO_pO r i o j]
      by_cases h : i' = j
      · subst h
        rw [if_pos rfl, if_neg (fun x => e x.symm), if_pos rfl]
      · rw [if_neg h, if_neg h]

theorem gO_pOs : ∀ (upd : List (Id × Obj)) (s : Store), gO (pOs s upd) = updL (gO s) upd
  | [], s => rfl
  | (i, o) :: r, s => by
    simp only [pOs, updL, gO_pOs r]
    congr 1
    funext j
    exact gO_pO s i o j

theorem gE_putE (env : Env) (d : Option Nat) (v : AVal) (t : Nat) : gE (putE env d v) t = if d = some t then v else gE env t := by
  cases d with
  | none => simp [putE]
  | some d => simp [putE, gE]

/-- a state of the abstract machine stands for an activation and a world; C0: the context in which the function was entered -/
structure Good (B : Base) (C0 C : Ctx) (n : Nat) (s : St) (a : Act) : Prop where
  ρ : C.ρ = gO s.objs
  inv : Inv B C
  env : RepE C (gE s.env) a
  size : a.tmps.size = n
  ext : Ext (fun i => i) (fun id => id.1 = 0) C0 C
  defers : a.defers = []

theorem RepE.put {C C' : Ctx} {g : Nat → AVal} {a : Act} (h : RepE C g a) (hg : Grow C C') {n : Nat} (hn : a.tmps.size = n) {d : Option Nat} (hd : d.all (· < n) = true) {v : AVal} {val : Value} (hv : RepA C' v val) :
    RepE C' (fun t => if d = some t then v else g t) (a.put d val) := by
  intro t
  cases d with
  | none => simpa [Act.put] using (h t).grow hg
  | some d =>
    simp only [Option.all_some, decide_eq_true_eq] at hd
    by_cases e : d = t
    · subst e
      simp only [if_true, Act.put]
      have : (a.tmps.setIfInBounds d val).getD d undef = val := by
        simp [Array.getD_eq_getD_getElem?, hn, hd]
      rw [this]; exact hv
    · have e' : ¬ (some d = some t) := fun x => e (Option.some.inj x)
      simp only [e', if_false, Act.put]
      have : (a.tmps.setIfInBounds d val).getD t undef = a.tmps.getD t undef := by
        simp [Array.getD_eq_getD_getElem?, Array.getElem?_setIfInBounds_ne e]
      rw [this]
      exact (h t).grow hg

theorem Ext.thenGrow {C0 C C' : Ctx} {D : Id → Prop} (h : Ext (fun i => i) D C0 C) (hg : Grow C C') : Ext (fun i => i) D C0 C' := by
  refine ⟨fun b o v hv => hg.F _ _ _ (h.F _ _ _ hv), fun id L hd hb => hg.box id L trivial (h.box id L hd hb), fun id A hd ha => ?_⟩
  obtain ⟨A', h1, h2, h3⟩ := h.arr id A hd ha
  obtain ⟨A'', h4, h5, h6⟩ := hg.arr id A' trivial h1
  refine ⟨A'', h4, Nat.le_trans h2 h5, fun e => ?_⟩
  obtain ⟨a1, a2, a3⟩ := h3 (by omega)
  obtain ⟨b1, b2, b3⟩ := h6 (by omega)
  exact ⟨by rw [b1, a1], by rw [b2, a2], by omega⟩

section
variable {P : Program} {B : Base} {C0 : Ctx} {K : Orc} {n : Nat}

/-- one operation behind its guard, at whatever state of slots and objects: in the words of wpOp -/
theorem wpOp_sound (hS : SoundK P K) {ops : Array Oper} {Q : Exit → Act → World → Prop} {i : Nat} {o : Oper} (hi : ops[i]? = some o) {ms : List (Nat × Mk)} {k : AK} {gd : Option (Nat × Bool)} (hc : cOper P n ms ops.toList i o = some (k, gd)) {lg : Bool}
    {C : Ctx} {g : Nat → AVal} {a : Act} (hI : Inv B C) (hE : RepE C g a) (hn : a.tmps.size = n) {out : Out} (h : aoE K ⟨o.dst, k, gd, lg⟩ g C.ρ = some out) {next : Act → World → Prop}
    (hnext : ∀ val C', C'.ρ = updL C.ρ out.2 → Inv B C' → Grow C C' → RepE C' (fun t => if o.dst = some t then out.1 else g t) (a.put o.dst val) → (a.put o.dst val).tmps.size = n → next (a.put o.dst val) C'.w) :
    wpOp P ops Q i next a C.w := by
  unfold wpOp
  simp only [hi]
  have hc0 := hc
  unfold cOper at hc
  have hsize : ∀ val, (a.put o.dst val).tmps.size = n := by
    intro val
    cases o.dst <;> simp [Act.put, hn]
  have hdo : ∀ (hk : cOp P (mkOf ms i) o = some k), (o.dst.all (· < n)) = true → opE K (o.dst.getD 0) k g C.ρ = some out → o.wp P a C.w next Q := by
    intro hk hd hop
    have := op_all (B := B) hS hI hE (v := out.1) (upd := out.2) hk (by simpa using hop)
    refine this.wp fun val w' ⟨C', e1, e2, e3, e4, e5⟩ => ?_
    subst e1
    exact hnext val C' e2 e3 e4 (hE.put e4 hn hd e5) (hsize val)
  have hskip : out = (.tup [], []) → (o.dst.all (· < n)) = true → next (a.put o.dst undef) C.w := by
    intro e hd
    subst e
    refine hnext undef C rfl hI (Grow.refl C) (hE.put (Grow.refl C) hn hd ?_) (hsize undef)
    simp [RepA, RepL, undef]
  cases hgd : o.guard with
  | none =>
    rw [hgd] at hc
    simp only at hc
    split at hc
    · rename_i k' g' hk hg
      simp only [Option.some.injEq] at hg
      subst hg
      split at hc
      · rename_i hd
        simp only [Option.some.injEq, Prod.mk.injEq] at hc
        obtain ⟨rfl, rfl⟩ := hc
        simp only [aoE] at h
        have hw : Region.wanted o (yielded ops a.tmps) = true := by simp [Region.wanted, hgd]
        simp only [hw, if_true]
        exact .inl (hdo hk hd h)
      · cases hc
    · cases hc
  | some jw =>
    obtain ⟨j, want⟩ := jw
    rw [hgd] at hc
    simp only at hc
    split at hc
    · rename_i k' g' hk hg
      split at hg
      · rename_i t ht
        simp only [Option.some.injEq] at hg
        subst hg
        split at hc
        · rename_i hd
          simp only [Option.some.injEq, Prod.mk.injEq] at hc
          obtain ⟨rfl, rfl⟩ := hc
          simp only [aoE] at h
          have hht : ((ops[j]?).bind (·.dst)) = some t := by simpa using ht
          have hy : ∀ v, a.tmps.getD t undef = v → yielded ops a.tmps j = match v with | .bool b => some b | _ => none := by
            intro v hv
            unfold yielded
            rw [hht]
            simp only [Option.bind_some]
            cases e : a.tmps[t]? with
            | none =>
              have : a.tmps.getD t undef = undef := by simp [Array.getD_eq_getD_getElem?, e]
              rw [this] at hv
              subst hv
              rfl
            | some u =>
              have : a.tmps.getD t undef = u := by simp [Array.getD_eq_getD_getElem?, e]
              rw [this] at hv
              subst hv
              cases u <;> rfl
          have hrt := hE t
          split at h
          · rename_i b hb
            rw [hb] at hrt
            have hyb := hy _ (rep_bool hrt)
            simp only at hyb
            have hw : Region.wanted o (yielded ops a.tmps) = (b == want) := by simp [Region.wanted, hgd, hyb]
            rw [hw]
            split at h
            · rename_i hbw
              subst hbw
              simp only [BEq.rfl, if_true]
              exact .inl (hdo hk hd h)
            · rename_i hbw
              have : (b == want) = false := by simpa using hbw
              rw [this]
              simp only [Option.some.injEq] at h
              simpa using hskip h.symm hd
          · rename_i hb
            rw [hb] at hrt
            simp only [RepA, RepL] at hrt
            obtain ⟨cs, h1, h2⟩ := hrt
            have hyb := hy _ h1
            simp only at hyb
            have hw : Region.wanted o (yielded ops a.tmps) = false := by simp [Region.wanted, hgd, hyb]
            rw [hw]
            simp only [Option.some.injEq] at h
            simpa using hskip h.symm hd
          · cases h
        · cases hc
      · cases hg
    · cases hc

end
end Go.Am
