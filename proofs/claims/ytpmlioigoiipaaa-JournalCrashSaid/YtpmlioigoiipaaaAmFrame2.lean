/- The abstract machine: what an operation's answer depends on, among the objects. -/
import Derived.Test.YtpmlioigoiipaaaAmFrame
set_option linter.unusedVariables false
set_option linter.unusedSimpArgs false
namespace Go.Am

theorem mem_frz_arr {ρ : Look} : ∀ {fs : List Id} {i : Id}, i ∈ (frz ρ fs).map (·.1) → i ∈ fs := fun {fs} {i} h => frz_keys (ρ := ρ) (fs := fs) i h

section
variable {g : Nat → AVal} {ρ ρ' : Look}

theorem opE_objs (K : Orc) (site : Nat) {k : AK} {out : Out} (h : opE K site k g ρ = some out) (hρ : ∀ i, i ∈ touch k g ρ ∨ i ∈ out.2.map (·.1) → ρ' i = ρ i) : opE K site k g ρ' = some out := by
  cases k with
  | mv x => exact h
  | pick c a b => exact h
  | nilChk x => exact h
  | bin bk op x y => exact h
  | un op x => exact h
  | cvt k x => exact h
  | fAddr off x => exact h
  | fld off n agg x => exact h
  | iAddr sz x i => exact h
  | iAddrA n sz x i => exact h
  | idx n sz agg x i => exact h
  | idxS x i => exact h
  | ext i x => exact h
  | len str x => exact h
  | mm isMax x r => exact h
  | bld zero parts => exact h
  | slc str sz x lo hi => exact h
  | mvNil md sz =>
    simp only [opE] at h ⊢
    split at h
    · cases h
    · rename_i nv hnv
      have key : (site + 1, 0) ∈ out.2.map (·.1) := by
        cases md with
        | o =>
          simp only at h
          split at h
          · cases h; simp
          · cases h
        | r => simp only [Option.some.injEq] at h; subst h; simp
        | d => cases h
      rw [newVer_congr (hρ _ (.inr key)), hnv]
      exact h
  | b2s x =>
    simp only [opE] at h ⊢
    rw [elemsOf_congr fun i hi => hρ i (.inl hi)]
    exact h
  | bldS md sz xs =>
    simp only [opE] at h ⊢
    have ht : ∀ i ∈ AVal.idsL (xs.map (evX g)), ρ' i = ρ i := fun i hi => hρ i (.inl hi)
    cases md with
    | r => exact h
    | d =>
      simp only at h ⊢
      rw [decAll_congr ht]
      split at h
      · rename_i ds fs hd
        simp only [frz_congr (fs := fs) fun i hi => ht i (decAll_fs hd i hi)]
        exact h
      · cases h
    | o =>
      simp only at h ⊢
      rw [decAll_congr ht]
      split at h
      · rename_i ds fs hd
        split at h
        · rename_i hw
          rw [if_pos hw]
          split at h
          · rename_i nv hnv
            split at h
            · rename_i hc
              have key : ρ' (site + 1, 0) = ρ (site + 1, 0) := by
                refine hρ _ (.inr ?_)
                simp only [Option.some.injEq] at h
                subst h
                simp
              rw [newVer_congr key, hnv]
              simp only [frz_congr (fs := fs) fun i hi => ht i (decAll_fs hd i hi)]
              rw [if_pos hc]
              exact h
            · cases h
          · cases h
        · cases h
      · cases h
  | box n x =>
    simp only [opE] at h ⊢
    split at h
    · cases h
    · rename_i hn
      split at h
      · rename_i hc
        have key : ρ' (site + 1, 0) = ρ (site + 1, 0) := by
          refine hρ _ (.inr ?_)
          simp only [Option.some.injEq] at h
          subst h
          simp
        rw [key, hn]
        simp only
        rw [if_pos hc]
        exact h
      · cases h
  | alc zero =>
    simp only [opE] at h ⊢
    split at h
    · cases h
    · rename_i hn
      have key : ρ' (site + 1, 0) = ρ (site + 1, 0) := by
        refine hρ _ (.inr ?_)
        simp only [Option.some.injEq] at h
        subst h
        simp
      rw [key, hn]
      exact h
  | ld n agg a =>
    simp only [opE] at h ⊢
    rw [loadE_congr fun i hi => hρ i (.inl hi)]
    exact h
  | st n a v =>
    simp only [opE] at h ⊢
    rw [storeE_congr (fun i hi => hρ i (.inl (List.mem_append.2 (.inl hi)))) (fun i hi => hρ i (.inl (List.mem_append.2 (.inr hi))))]
    exact h
  | mk md sz bytes zero l c =>
    simp only [opE] at h ⊢
    split at h
    · rename_i l' c' hl hc
      split at h
      · rename_i hb
        try simp only [hl, hc]
        rw [if_pos hb]
        cases md with
        | r =>
          simp only at h ⊢
          split at h
          · rename_i z nv hnv
            split at h
            · rename_i hz
              have key : ρ' (site + 1, 0) = ρ (site + 1, 0) := by
                refine hρ _ (.inr ?_)
                simp only [Option.some.injEq] at h
                subst h
                simp
              simp only [newVer_congr key, hnv]
              rw [if_pos hz]
              exact h
            · cases h
          · cases h
        | d => exact h
        | o =>
          simp only at h ⊢
          split at h
          · rename_i z hz
            try simp only [hz]
            split at h
            · rename_i hw
              rw [if_pos hw]
              split at h
              · cases h
              · rename_i nv hnv
                have key : ρ' (site + 1, 0) = ρ (site + 1, 0) := by
                  refine hρ _ (.inr ?_)
                  simp only [Option.some.injEq] at h
                  subst h
                  simp
                simp only [newVer_congr key, hnv]
                exact h
            · cases h
          · cases h
      · cases h
    · cases h
  | app md sz bytes x y =>
    have hx : ∀ i ∈ (evX g x).ids, ρ' i = ρ i := fun i hi => hρ i (.inl (List.mem_append.2 (.inl hi)))
    have hy : ∀ i ∈ (evX g y).ids, ρ' i = ρ i := fun i hi => hρ i (.inl (List.mem_append.2 (.inr hi)))
    simp only [opE] at h ⊢
    rw [srcOf_congr hy]
    split at h
    · rename_i id ver sz' off len hv
      try simp only [hv]
      rw [hx id (by simp [hv, AVal.ids])]
      exact h
    · rename_i hv
      try simp only [hv]
      cases md with
      | r =>
        simp only at h ⊢
        split at h
        · rename_i ws nv hw hnv
          split at h
          · rename_i hc
            have key : ρ' (site + 1, 0) = ρ (site + 1, 0) := by
              refine hρ _ (.inr ?_)
              simp only [Option.some.injEq] at h
              subst h
              simp
            simp only [newVer_congr key, hnv, hw]
            rw [if_pos hc]
            exact h
          · cases h
        · cases h
      | d =>
        simp only at h ⊢
        split at h
        · rename_i ds nv hw hnv
          split at h
          · rename_i hc
            have key : ρ' (site + 1, 0) = ρ (site + 1, 0) := by
              refine hρ _ (.inr ?_)
              simp only [Option.some.injEq] at h
              subst h
              simp
            simp only [newVer_congr key, hnv, hw]
            rw [if_pos hc]
            exact h
          · cases h
        · cases h
      | o =>
        simp only at h ⊢
        split at h
        · rename_i ds nv hw hnv
          split at h
          · rename_i hc
            have key : ρ' (site + 1, 0) = ρ (site + 1, 0) := by
              refine hρ _ (.inr ?_)
              simp only [Option.some.injEq] at h
              subst h
              simp
            simp only [newVer_congr key, hnv, hw]
            rw [if_pos hc]
            exact h
          · cases h
        · cases h
    · cases h
  | cpy sz x y =>
    have hx : ∀ i ∈ (evX g x).ids, ρ' i = ρ i := fun i hi => hρ i (.inl (List.mem_append.2 (.inl hi)))
    have hy : ∀ i ∈ (evX g y).ids, ρ' i = ρ i := fun i hi => hρ i (.inl (List.mem_append.2 (.inr hi)))
    simp only [opE] at h ⊢
    rw [srcOf_congr hy]
    split at h
    · rename_i id ver sz' off len ds hv hs
      try simp only [hv, hs]
      rw [hx id (by simp [hv, AVal.ids])]
      exact h
    · cases h
  | clr zero x =>
    have hx : ∀ i ∈ (evX g x).ids, ρ' i = ρ i := fun i hi => hρ i (.inl hi)
    simp only [opE] at h ⊢
    split at h
    · rename_i id ver sz off len z hv hz
      try simp only [hv, hz]
      rw [hx id (by simp [hv, AVal.ids])]
      exact h
    · cases h
  | call f args scalar =>
    simp only [opE] at h ⊢
    have ht : ∀ i ∈ AVal.idsL ((args.map fun p => (evX g p.1, p.2)).map (·.1)), ρ' i = ρ i := by
      rw [map_fst_pairs]
      exact fun i hi => hρ i (.inl (List.mem_append.2 (.inl hi)))
    rw [argsE_congr ht]
    cases ha : opE.argsE ρ (args.map fun p => (evX g p.1, p.2)) with
    | none => rw [ha] at h; cases h
    | some p =>
      obtain ⟨vs, fs⟩ := p
      rw [ha] at h
      simp only at h ⊢
      cases hcol : collect ρ 64 (AVal.idsL vs) [] with
      | none => rw [hcol] at h; cases h
      | some order =>
        rw [hcol] at h
        have ho : ∀ i ∈ order, ρ' i = ρ i := fun i hi => hρ i (.inl (List.mem_append.2 (.inr (by simp only [ha, hcol]; exact hi))))
        rw [collect_congr hcol ho]
        simp only at h ⊢
        rw [gather_congr ho]
        cases hg : gather ρ order with
        | none => rw [hg] at h; cases h
        | some os =>
          rw [hg] at h
          simp only at h ⊢
          split at h
          · cases h
          · rename_i hany
            rw [if_neg hany]
            cases hK : K f (AVal.renL (toPos order) vs) (os.map (Obj.ren (toPos order))) with
            | none => rw [hK] at h; cases h
            | some q =>
              obtain ⟨v, os'⟩ := q
              rw [hK] at h
              simp only at h ⊢
              split at h
              · rename_i hsc
                rw [if_pos hsc]
                exact h
              · rename_i hsc
                rw [if_neg hsc]
                split at h
                · cases h
                · rename_i hlen
                  rw [if_neg hlen]
                  split at h
                  · cases h
                  · rename_i hfr
                    simp only [Option.some.injEq] at h
                    have key : ∀ j, j < os'.length - order.length → ρ' (site + 1, j) = ρ (site + 1, j) := by
                      intro j hj
                      refine hρ _ (.inr ?_)
                      rw [← h]
                      simp only [List.map_append, List.mem_append]
                      right
                      rw [List.map_fst_zip (by simp)]
                      refine List.mem_map.2 ⟨order.length + j, by simp; omega, ?_⟩
                      have : order[order.length + j]? = none := by simp
                      simp [fromPos, this]
                    have hfr' : ¬ (List.range (os'.length - order.length)).any (fun j => (ρ' (site + 1, j)).isSome) = true := by
                      intro hx
                      rw [List.any_eq_true] at hx
                      obtain ⟨j, hj, hjs⟩ := hx
                      refine hfr (List.any_eq_true.2 ⟨j, hj, ?_⟩)
                      rw [← key j (by simpa using hj)]
                      exact hjs
                    rw [if_neg hfr']
                    have hfz : frz ρ' fs = frz ρ fs := frz_congr fun i hi => ht i (argsE_fs ha i hi)
                    rw [hfz, h]

/-- how an operation touches the store -/
theorem opE_quiet (K : Orc) (site : Nat) {k : AK} {out : Out} (h : opE K site k g ρ = some out) (hk : k.kind ≠ 2) : out.2 = [] := by
  obtain ⟨v, upd⟩ := out
  have mp : ∀ {α : Type} {x : Option α} {f : α → AVal}, (x.map fun a => (f a, ([] : List (Id × Obj)))) = some (v, upd) → upd = [] := by
    intro α x f hx
    cases x with
    | none => cases hx
    | some a => simp only [Option.map_some, Option.some.injEq, Prod.mk.injEq] at hx; exact hx.2.symm
  have sm : ∀ {u : AVal}, some (u, ([] : List (Id × Obj))) = some (v, upd) → upd = [] := by
    intro u hx
    simp only [Option.some.injEq, Prod.mk.injEq] at hx
    exact hx.2.symm
  cases k with
  | mv x => exact sm h
  | mvNil md sz => simp [AK.kind] at hk
  | pick c a b =>
    simp only [opE] at h
    split at h
    · exact sm h
    · cases h
  | nilChk x =>
    simp only [opE] at h
    split at h <;> first | exact sm h | cases h
  | bin bk op x y => exact mp h
  | un op x => exact mp h
  | cvt k x =>
    simp only [opE] at h
    split at h
    · exact sm h
    · cases h
  | b2s x =>
    simp only [opE] at h
    split at h
    · split at h
      · exact sm h
      · cases h
    · cases h
  | fAddr off x => exact mp h
  | fld off n agg x => exact mp h
  | iAddr sz x i =>
    simp only [opE] at h
    split at h
    · exact mp h
    · cases h
  | iAddrA n sz x i =>
    simp only [opE] at h
    split at h
    · split at h
      · exact mp h
      · cases h
    · cases h
  | idx n sz agg x i =>
    simp only [opE] at h
    split at h
    · split at h
      · exact mp h
      · cases h
    · cases h
  | idxS x i =>
    simp only [opE] at h
    split at h
    · split at h
      · exact mp h
      · cases h
    · cases h
  | ext i x =>
    simp only [opE] at h
    split at h
    · exact mp h
    · cases h
  | len str x => exact mp h
  | mm isMax x r => exact mp h
  | bld zero parts => exact mp h
  | bldS md sz xs =>
    simp only [AK.kind] at hk
    split at hk
    · rename_i e
      subst e
      simp only [opE] at h
      split at h
      · exact sm h
      · cases h
    · exact absurd rfl hk
  | box n x => simp [AK.kind] at hk
  | alc zero => simp [AK.kind] at hk
  | ld n agg a => exact mp h
  | st n a v => simp [AK.kind] at hk
  | mk md sz bytes zero l c =>
    simp only [AK.kind] at hk
    split at hk
    · rename_i e
      subst e
      simp only [opE] at h
      split at h
      · split at h
        · split at h
          · split at h
            · exact sm h
            · cases h
          · cases h
        · cases h
      · cases h
    · exact absurd rfl hk
  | slc str sz x lo hi =>
    simp only [opE] at h
    split at h
    · exact mp h
    · cases h
  | app md sz bytes x y => simp [AK.kind] at hk
  | cpy sz x y => simp [AK.kind] at hk
  | clr zero x => simp [AK.kind] at hk
  | call f args scalar => simp [AK.kind] at hk

/-- an operation that does not look at the store -/
theorem opE_blind (K : Orc) (site : Nat) {k : AK} (hk : k.kind = 0) : opE K site k g ρ' = opE K site k g ρ := by
  cases k <;> first | rfl | (simp [AK.kind] at hk; done) | skip
  · rename_i md sz xs
    simp only [AK.kind] at hk
    split at hk
    · rename_i e
      subst e
      rfl
    · cases hk
  · rename_i md sz bytes zero l c
    simp only [AK.kind] at hk
    split at hk
    · rename_i e
      subst e
      rfl
    · cases hk

end
end Go.Am
