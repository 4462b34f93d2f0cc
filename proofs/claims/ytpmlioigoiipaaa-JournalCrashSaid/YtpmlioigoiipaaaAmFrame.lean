/- The abstract machine: what an operation's answer depends on: the slots that it names, and the objects that it looks at or writes. -/
import Derived.Test.YtpmlioigoiipaaaAmCall
import Derived.Test.YtpmlioigoiipaaaAmRegion
set_option linter.unusedVariables false
set_option linter.unusedSimpArgs false
namespace Go.Am

section
variable {g g' : Nat → AVal} {ρ ρ' : Look}

theorem evX_congr : ∀ {x : AX}, (∀ t ∈ x.slots, g' t = g t) → evX g' x = evX g x
  | .t n, h => h n (by simp [AX.slots])
  | .c v, _ => rfl

theorem evXs_congr : ∀ {xs : List AX}, (∀ t ∈ AX.slotsL xs, g' t = g t) → xs.map (evX g') = xs.map (evX g)
  | [], _ => rfl
  | x :: r, h => by
    simp only [AX.slotsL, List.mem_append, or_imp, forall_and] at h
    rw [List.map_cons, List.map_cons, evX_congr h.1, evXs_congr h.2]

theorem pairs_congr {args : List (AX × Bool)} (h : ∀ t ∈ AX.slotsL (args.map (·.1)), g' t = g t) : (args.map fun p => (evX g' p.1, p.2)) = (args.map fun p => (evX g p.1, p.2)) := by
  induction args with
  | nil => rfl
  | cons p r ih =>
    simp only [List.map_cons, AX.slotsL, List.mem_append, or_imp, forall_and] at h
    rw [List.map_cons, List.map_cons, ih h.2, evX_congr h.1]

theorem parts_congr {ps : List (Nat × Nat × AX)} (h : ∀ t ∈ AX.slotsL (ps.map fun p => p.2.2), g' t = g t) : (ps.map fun p => (p.1, p.2.1, evX g' p.2.2)) = (ps.map fun p => (p.1, p.2.1, evX g p.2.2)) := by
  induction ps with
  | nil => rfl
  | cons p r ih =>
    simp only [List.map_cons, AX.slotsL, List.mem_append, or_imp, forall_and] at h
    rw [List.map_cons, List.map_cons, ih h.2, evX_congr h.1]

/-- the slots -/
theorem opE_slots (K : Orc) (site : Nat) {k : AK} (ρ : Look) (h : ∀ t ∈ k.slots, g' t = g t) : opE K site k g' ρ = opE K site k g ρ := by
  cases k with
  | mv x => simp only [opE, evX_congr h]
  | mvNil md sz => rfl
  | pick c a b =>
    simp only [AK.slots, List.mem_append, or_imp, forall_and] at h
    simp only [opE, evX_congr h.1.1, evX_congr h.1.2, evX_congr h.2]
  | nilChk x => simp only [opE, evX_congr h]
  | bin bk op x y =>
    simp only [AK.slots, List.mem_append, or_imp, forall_and] at h
    simp only [opE, evX_congr h.1, evX_congr h.2]
  | un op x => simp only [opE, evX_congr h]
  | cvt k x => simp only [opE, evX_congr h]
  | b2s x => simp only [opE, evX_congr h]
  | fAddr off x => simp only [opE, evX_congr h]
  | fld off n agg x => simp only [opE, evX_congr h]
  | iAddr sz x i =>
    simp only [AK.slots, List.mem_append, or_imp, forall_and] at h
    simp only [opE, evX_congr h.1, evX_congr h.2]
  | iAddrA n sz x i =>
    simp only [AK.slots, List.mem_append, or_imp, forall_and] at h
    simp only [opE, evX_congr h.1, evX_congr h.2]
  | idx n sz agg x i =>
    simp only [AK.slots, List.mem_append, or_imp, forall_and] at h
    simp only [opE, evX_congr h.1, evX_congr h.2]
  | idxS x i =>
    simp only [AK.slots, List.mem_append, or_imp, forall_and] at h
    simp only [opE, evX_congr h.1, evX_congr h.2]
  | ext i x => simp only [opE, evX_congr h]
  | len str x => simp only [opE, evX_congr h]
  | mm isMax x r =>
    simp only [AK.slots, List.mem_append, or_imp, forall_and] at h
    simp only [opE, evX_congr h.1, evXs_congr h.2]
  | bld zero parts => simp only [opE, parts_congr h]
  | bldS md sz xs => simp only [opE, evXs_congr h]
  | box n x => simp only [opE, evX_congr h]
  | alc zero => rfl
  | ld n agg a => simp only [opE, evX_congr h]
  | st n a v =>
    simp only [AK.slots, List.mem_append, or_imp, forall_and] at h
    simp only [opE, evX_congr h.1, evX_congr h.2]
  | mk md sz bytes zero l c =>
    simp only [AK.slots, List.mem_append, or_imp, forall_and] at h
    simp only [opE, evX_congr h.1, evX_congr h.2]
  | slc str sz x lo hi =>
    simp only [AK.slots, List.mem_append, or_imp, forall_and] at h
    obtain ⟨⟨h1, h2⟩, h3⟩ := h
    cases lo with
    | none =>
      cases hi with
      | none => simp only [opE, evX_congr h1]
      | some y =>
        have h3' : ∀ t ∈ y.slots, g' t = g t := by simpa [AX.slotsL] using h3
        simp only [opE, evX_congr h1, evX_congr h3']
    | some x' =>
      have h2' : ∀ t ∈ x'.slots, g' t = g t := by simpa [AX.slotsL] using h2
      cases hi with
      | none => simp only [opE, evX_congr h1, evX_congr h2']
      | some y =>
        have h3' : ∀ t ∈ y.slots, g' t = g t := by simpa [AX.slotsL] using h3
        simp only [opE, evX_congr h1, evX_congr h2', evX_congr h3']
  | app md sz bytes x y =>
    simp only [AK.slots, List.mem_append, or_imp, forall_and] at h
    simp only [opE, evX_congr h.1, evX_congr h.2]
  | cpy sz x y =>
    simp only [AK.slots, List.mem_append, or_imp, forall_and] at h
    simp only [opE, evX_congr h.1, evX_congr h.2]
  | clr zero x => simp only [opE, evX_congr h]
  | call f args scalar => simp only [opE, pairs_congr h]

/-! ## The objects -/

theorem elemsOf_congr {sz : Nat} {v : AVal} (h : ∀ i ∈ v.ids, ρ' i = ρ i) : elemsOf ρ' sz v = elemsOf ρ sz v := by
  cases v with
  | rsl id ver sz' off len => simp only [elemsOf, h id (by simp [AVal.ids])]
  | dat d => cases d <;> rfl
  | _ => rfl

theorem srcOf_congr {sz : Nat} {v : AVal} (h : ∀ i ∈ v.ids, ρ' i = ρ i) : srcOf ρ' sz v = srcOf ρ sz v := by
  cases v with
  | dat d => cases d <;> rfl
  | rsl id ver sz' off len =>
    simp only [srcOf]
    exact elemsOf_congr h
  | _ => rfl

theorem decLeaf_congr {v : AVal} (h : ∀ i ∈ v.ids, ρ' i = ρ i) : decLeaf ρ' v = decLeaf ρ v := by
  cases v with
  | rsl id ver sz' off len => simp only [decLeaf, h id (by simp [AVal.ids])]
  | _ => rfl

theorem decLeaves_congr : ∀ {l : List AVal}, (∀ i ∈ AVal.idsL l, ρ' i = ρ i) → decLeaves ρ' l = decLeaves ρ l
  | [], _ => rfl
  | v :: r, h => by
    simp only [AVal.idsL, List.mem_append, or_imp, forall_and] at h
    simp only [decLeaves, decLeaf_congr h.1, decLeaves_congr h.2]

theorem dec_congr {v : AVal} (h : ∀ i ∈ v.ids, ρ' i = ρ i) : dec ρ' v = dec ρ v := by
  cases v with
  | agg l => simp only [dec, decLeaves_congr (l := l) h]
  | rsl id ver sz off len => simp only [dec]; exact decLeaf_congr h
  | _ => rfl

theorem decAll_congr : ∀ {l : List AVal}, (∀ i ∈ AVal.idsL l, ρ' i = ρ i) → decAll ρ' l = decAll ρ l
  | [], _ => rfl
  | v :: r, h => by
    simp only [AVal.idsL, List.mem_append, or_imp, forall_and] at h
    simp only [decAll, dec_congr h.1, decAll_congr h.2]

theorem decLeaf_fs {v : AVal} {d : Dat} {fs : List Id} (h : decLeaf ρ v = some (d, fs)) : ∀ i ∈ fs, i ∈ v.ids := by
  cases v with
  | rsl id ver sz off len =>
    simp only [decLeaf] at h
    split at h
    · split at h
      · simp only [Option.some.injEq, Prod.mk.injEq] at h
        obtain ⟨rfl, rfl⟩ := h
        intro i hi
        simpa [AVal.ids] using hi
      · cases h
    · cases h
  | dat d' => simp [decLeaf] at h; simp [h.2]
  | nils => simp [decLeaf] at h; simp [h.2]
  | emp t => simp [decLeaf] at h; simp [h.2]
  | _ => simp [decLeaf] at h

theorem decLeaves_fs : ∀ {l : List AVal} {ds : List Dat} {fs : List Id}, decLeaves ρ l = some (ds, fs) → ∀ i ∈ fs, i ∈ AVal.idsL l
  | [], ds, fs, h => by simp [decLeaves] at h; simp [h.2]
  | v :: r, ds, fs, h => by
    simp only [decLeaves] at h
    split at h
    · rename_i d f ds' fs' h1 h2
      split at h
      · cases h
      · simp only [Option.some.injEq, Prod.mk.injEq] at h
        obtain ⟨rfl, rfl⟩ := h
        intro i hi
        simp only [List.mem_append, AVal.idsL] at hi ⊢
        exact orMap hi (decLeaf_fs h1 i) (decLeaves_fs h2 i)
    · cases h

theorem dec_fs {v : AVal} {d : Dat} {fs : List Id} (h : dec ρ v = some (d, fs)) : ∀ i ∈ fs, i ∈ v.ids := by
  cases v with
  | agg l =>
    simp only [dec] at h
    split at h
    · rename_i ds fs' h1
      simp only [Option.some.injEq, Prod.mk.injEq] at h
      obtain ⟨rfl, rfl⟩ := h
      exact decLeaves_fs h1
    · cases h
  | _ => simp only [dec] at h; exact decLeaf_fs h

theorem decAll_fs : ∀ {l : List AVal} {ds : List Dat} {fs : List Id}, decAll ρ l = some (ds, fs) → ∀ i ∈ fs, i ∈ AVal.idsL l
  | [], ds, fs, h => by simp [decAll] at h; simp [h.2]
  | v :: r, ds, fs, h => by
    simp only [decAll] at h
    split at h
    · rename_i d f ds' fs' h1 h2
      simp only [Option.some.injEq, Prod.mk.injEq] at h
      obtain ⟨rfl, rfl⟩ := h
      intro i hi
      simp only [List.mem_append, AVal.idsL] at hi ⊢
      exact orMap hi (dec_fs h1 i) (decAll_fs h2 i)
    · cases h

theorem frz_congr : ∀ {fs : List Id}, (∀ i ∈ fs, ρ' i = ρ i) → frz ρ' fs = frz ρ fs
  | [], _ => rfl
  | id :: r, h => by
    simp only [frz, h id (by simp), frz_congr (fs := r) (fun i hi => h i (by simp [hi]))]

theorem loadE_congr {n : Nat} {agg : Bool} {v : AVal} (h : ∀ i ∈ v.ids, ρ' i = ρ i) : loadE ρ' n agg v = loadE ρ n agg v := by
  cases v with
  | ref id off => simp only [loadE, h id (by simp [AVal.ids])]
  | eref id ver i off => simp only [loadE, h id (by simp [AVal.ids])]
  | _ => rfl

theorem storeE_congr {n : Nat} {a v : AVal} (h : ∀ i ∈ a.ids, ρ' i = ρ i) (h' : ∀ i ∈ v.ids, ρ' i = ρ i) : storeE ρ' n a v = storeE ρ n a v := by
  cases a with
  | ref id off => simp only [storeE, h id (by simp [AVal.ids])]
  | eref id ver i off =>
    simp only [storeE, h id (by simp [AVal.ids]), dec_congr h']
    cases hd : dec ρ v with
    | none => rfl
    | some p =>
      obtain ⟨d, fs⟩ := p
      have e := frz_congr (fs := fs) (fun i hi => h' i (dec_fs hd i hi))
      cases ρ id with
      | none => rfl
      | some o =>
        cases o with
        | box cs => rfl
        | rarr ver' es => rfl
        | arr sz ver' fz es =>
          cases fz with
          | true => rfl
          | false =>
            cases he : es[i]? with
            | none => simp only [he]
            | some x => simp only [he, e]
  | _ => rfl

theorem newVer_congr {i : Id} (h : ρ' i = ρ i) : newVer ρ' i = newVer ρ i := by simp only [newVer, h]

theorem argsE_congr : ∀ {l : List (AVal × Bool)}, (∀ i ∈ AVal.idsL (l.map (·.1)), ρ' i = ρ i) → opE.argsE ρ' l = opE.argsE ρ l
  | [], _ => rfl
  | (v, b) :: r, h => by
    simp only [List.map_cons, AVal.idsL, List.mem_append, or_imp, forall_and] at h
    simp only [opE.argsE, argsE_congr h.2, dec_congr h.1]

theorem argsE_fs : ∀ {l : List (AVal × Bool)} {vs : List AVal} {fs : List Id}, opE.argsE ρ l = some (vs, fs) → ∀ i ∈ fs, i ∈ AVal.idsL (l.map (·.1))
  | [], vs, fs, h => by simp [opE.argsE] at h; simp [h.2]
  | (v, b) :: r, vs, fs, h => by
    simp only [opE.argsE] at h
    split at h
    · cases h
    · rename_i vs' fs' h1
      intro i hi
      simp only [List.map_cons, AVal.idsL, List.mem_append]
      split at h
      · simp only [Option.some.injEq, Prod.mk.injEq] at h
        obtain ⟨rfl, rfl⟩ := h
        exact .inr (argsE_fs h1 i hi)
      · split at h
        · rename_i d f h2
          simp only [Option.some.injEq, Prod.mk.injEq] at h
          obtain ⟨rfl, rfl⟩ := h
          rcases List.mem_append.1 hi with hi | hi
          · exact .inl (dec_fs h2 i hi)
          · exact .inr (argsE_fs h1 i hi)
        · cases h

theorem collect_done : ∀ {n : Nat} {todo done res : List Id}, collect ρ n todo done = some res → ∀ i ∈ done, i ∈ res
  | 0, todo, done, res, h => by simp [collect] at h
  | n + 1, [], done, res, h => by
    simp only [collect, Option.some.injEq] at h
    subst h
    exact fun _ h => h
  | n + 1, id :: todo, done, res, h => by
    simp only [collect] at h
    split at h
    · exact collect_done h
    · split at h
      · cases h
      · exact fun i hi => collect_done h i (by simp [hi])

theorem collect_congr : ∀ {n : Nat} {todo done res : List Id}, collect ρ n todo done = some res → (∀ i ∈ res, ρ' i = ρ i) → collect ρ' n todo done = some res
  | 0, todo, done, res, h, _ => by simp [collect] at h
  | n + 1, [], done, res, h, _ => by simpa only [collect] using h
  | n + 1, id :: todo, done, res, h, hr => by
    simp only [collect] at h ⊢
    split at h
    · rename_i hid
      rw [if_pos hid]
      exact collect_congr h hr
    · rename_i hid
      rw [if_neg hid]
      split at h
      · cases h
      · rename_i o ho
        rw [hr id (collect_done h id (by simp)), ho]
        exact collect_congr h hr

theorem gather_congr : ∀ {l : List Id}, (∀ i ∈ l, ρ' i = ρ i) → gather ρ' l = gather ρ l
  | [], _ => rfl
  | id :: r, h => by simp only [gather, h id (by simp), gather_congr (l := r) (fun i hi => h i (by simp [hi]))]

theorem map_fst_pairs {args : List (AX × Bool)} : ((args.map fun p => (evX g p.1, p.2)).map (·.1)) = args.map fun p => evX g p.1 := by
  simp [List.map_map, Function.comp_def]

theorem frz_keys : ∀ {fs : List Id}, ∀ i ∈ (frz ρ fs).map (·.1), i ∈ fs
  | [], i, h => by simp [frz] at h
  | id :: r, i, h => by
    simp only [frz] at h
    split at h
    · simp only [List.map_cons, List.mem_cons] at h ⊢
      exact orMap h (fun h => h) (frz_keys i)
    · exact .tail _ (frz_keys i h)

end
end Go.Am
