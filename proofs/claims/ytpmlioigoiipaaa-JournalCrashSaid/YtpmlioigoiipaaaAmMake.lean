/- The abstract machine: the operations that make memory. -/
import Derived.Test.YtpmlioigoiipaaaAmMem
set_option linter.unusedVariables false
set_option linter.unusedSimpArgs false
namespace Go.Am

/-! ## Filling rows -/

theorem fold_set (off : Nat) : ∀ (c : List Value) (k : Nat) (cells : Array Value), off + k + c.length ≤ cells.size →
    ((c.zipIdx k).foldl (fun cs p => cs.setIfInBounds (off + p.2) p.1) cells).toList = cells.toList.take (off + k) ++ c ++ cells.toList.drop (off + k + c.length)
  | [], k, cells, h => by simp
  | x :: r, k, cells, h => by
    simp only [List.zipIdx_cons, List.foldl_cons]
    simp only [List.length_cons] at h
    rw [fold_set off r (k + 1) _ (by simp; omega)]
    have hlt : off + k < cells.toList.length := by simp; omega
    simp only [Array.toList_setIfInBounds]
    have e1 : (cells.toList.set (off + k) x).take (off + (k + 1)) = cells.toList.take (off + k) ++ [x] := by
      rw [show off + (k + 1) = off + k + 1 by omega, List.take_add_one, List.take_set_of_le (Nat.le_refl _), List.getElem?_set_self hlt]
      rfl
    have e2 : (cells.toList.set (off + k) x).drop (off + (k + 1) + r.length) = cells.toList.drop (off + k + (r.length + 1)) := by
      rw [List.drop_set_of_lt (by omega)]
      congr 1; omega
    rw [e1, e2]
    simp

theorem fill_step (place : Nat → Option (Nat × Nat)) (cells : Array Value) (i : Nat) (v : Value) (rest : List (Nat × Value)) {off size : Nat} (hp : place i = some (off, size))
    (hs : v.cells.size = size) (hf : off + size ≤ cells.size) :
    ∃ cells', Instr.fill place cells ((i, v) :: rest) = Instr.fill place cells' rest ∧ cells'.toList = splice cells.toList off v.cells.toList := by
  refine ⟨v.cells.zipIdx.foldl (fun cs (p : Value × Nat) => cs.setIfInBounds (off + p.2) p.1) cells, ?_, ?_⟩
  · simp only [Instr.fill, hp, hs]
    rw [if_neg]
    simp only [ne_eq, not_true_eq_false, decide_false, Bool.false_or, decide_eq_true_eq]
    omega
  · have := fold_set off v.cells.toList 0 cells (by simp; omega)
    rw [← Array.foldl_toList, Array.toList_zipIdx, this]
    simp [splice]

theorem length_splice {α : Type} (l : List α) (off : Nat) (v : List α) (h : off + v.length ≤ l.length) : (splice l off v).length = l.length := by
  simp only [splice, List.length_append, List.length_take, List.length_drop]; omega

theorem fill_row (size : Nat) : ∀ (vs : List Value) (k : Nat) (cells : Array Value), (∀ v ∈ vs, v.cells.size = size) → cells.size = (k + vs.length) * size →
    ∃ out, Instr.fill (fun i => some (i * size, size)) cells ((List.range' k vs.length).zip vs) = some out ∧ out.toList = cells.toList.take (k * size) ++ (vs.map (·.cells.toList)).flatten
  | [], k, cells, _, hs => by
    refine ⟨cells, by simp [Instr.fill], ?_⟩
    simp only [List.length_nil, Nat.add_zero] at hs
    rw [List.take_of_length_le (by simp; omega)]
    simp
  | v :: r, k, cells, h1, hs => by
    simp only [List.length_cons, List.range'_succ, List.zip_cons_cons]
    have hv := h1 v (by simp)
    have hmul : (k + (r.length + 1)) * size = k * size + size + r.length * size := by simp only [Nat.add_mul]; omega
    obtain ⟨cells', e1, e2⟩ := fill_step (fun i => some (i * size, size)) cells k v ((List.range' (k + 1) r.length).zip r) rfl hv (by rw [hs, List.length_cons, hmul]; omega)
    rw [e1]
    have hsz : cells'.size = cells.size := by
      have := congrArg List.length e2
      rw [length_splice _ _ _ (by simp; rw [hs, List.length_cons, hmul]; omega)] at this
      simpa using this
    obtain ⟨out, e3, e4⟩ := fill_row size r (k + 1) cells' (fun v hv => h1 v (by simp [hv])) (by rw [hsz, hs, List.length_cons]; congr 1; omega)
    refine ⟨out, e3, ?_⟩
    rw [e4, e2]
    have hl : (cells.toList.take (k * size) ++ v.cells.toList).length = (k + 1) * size := by
      simp only [List.length_append, List.length_take, Array.length_toList, hv]
      rw [hs, List.length_cons, hmul, Nat.add_mul]; omega
    simp only [splice]
    rw [List.take_append_of_le_length (by rw [hl]; exact Nat.le_refl _), ← hl, List.take_length]
    simp

theorem zeros_flat (z : Array Value) : ∀ (n : Nat), ((Array.range (n * z.size)).map (fun i => z[i % z.size]!)).toList = (List.replicate n z.toList).flatten
  | 0 => by simp
  | n + 1 => by
    have ih := zeros_flat z n
    simp only [Array.toList_map, Array.toList_range] at ih ⊢
    have e : (n + 1) * z.size = n * z.size + z.size := by rw [Nat.add_mul]; omega
    rw [e, List.range_add, List.map_append, ih]
    have e2 : (List.range z.size).map ((fun i => z[i % z.size]!) ∘ fun x => n * z.size + x) = z.toList := by
      apply List.ext_getElem
      · simp
      · intro i h1 h2
        simp only [List.length_map, List.length_range] at h1
        have : (n * z.size + i) % z.size = i := by rw [Nat.mul_comm, Nat.mul_add_mod]; exact Nat.mod_eq_of_lt h1
        simp [this, h1]
    rw [List.map_map, e2]
    have : ∀ (n : Nat), (List.replicate (n + 1) z.toList).flatten = (List.replicate n z.toList).flatten ++ z.toList := by
      intro n
      rw [List.replicate_succ']
      simp
    rw [this]

/-! ## Zero values -/

theorem tI_zero {P : Program} {t : TypeId} {q : TI} {z : List AVal} (h : tI P t = some q) (hz : q.zero = some z) :
    ∃ v : Value, (∀ w, (zeroValue t).run P w = .ok v w) ∧ allSome (v.cells.toList.map cst) = some z := by
  obtain ⟨i, d, h1, _, _, _, _, h6⟩ := tI_info h
  rw [hz] at h6
  cases e : i.zero with
  | none => simp [e] at h6
  | some v =>
    rw [e] at h6
    refine ⟨v, fun w => by simp [zeroValue, run_typeInfo h1, e], h6.symm⟩

theorem tI_zero_some {P : Program} {t : TypeId} {q : TI} (h : tI P t = some q) (hz : q.zero.isSome = true) : ∃ v : Value, ∀ w, (zeroValue t).run P w = .ok v w := by
  obtain ⟨z, hz'⟩ := Option.isSome_iff_exists.1 hz
  obtain ⟨v, hv, _⟩ := tI_zero h hz'
  exact ⟨v, hv⟩

theorem decLeaves_none {F : Froz} : ∀ {zero : List AVal} {ds : List Dat} {fs : List Id} {vs : List Value}, decLeaves (fun _ => none) zero = some (ds, fs) → allSome (vs.map cst) = some zero → AggD F ds vs
  | [], ds, fs, vs, h, hv => by
    simp [decLeaves] at h
    cases vs with
    | nil => rw [h.1]; rfl
    | cons v r =>
      exfalso
      have := allSome_spec hv
      simp at this
  | z :: zero, ds, fs, vs, h, hv => by
    have hsp := allSome_spec hv
    cases vs with
    | nil => simp at hsp
    | cons v r =>
      simp only [List.map_cons, List.cons.injEq] at hsp
      have hr : allSome (r.map cst) = some zero := by
        rw [hsp.2]
        clear h hv hsp
        induction zero with
        | nil => rfl
        | cons a b ih => simp [allSome, ih]
      simp only [decLeaves] at h
      cases e1 : decLeaf (fun _ => none) z with
      | none => simp [e1] at h
      | some p =>
        cases e2 : decLeaves (fun _ => none) zero with
        | none => simp [e1, e2] at h
        | some q =>
          simp only [e1, e2] at h
          split at h
          · cases h
          · rename_i hagg
            simp only [Option.some.injEq, Prod.mk.injEq] at h
            rw [← h.1]
            refine ⟨v, r, rfl, by simpa using hagg, ?_, decLeaves_none e2 hr⟩
            have hz := hsp.1
            unfold cst at hz
            split at hz <;> simp at hz <;> subst hz <;> simp [decLeaf] at e1 <;> rw [← e1] <;> simp [RepD]

theorem zeroDat_rep {F : Froz} {zero : List AVal} {z : Dat} {vs : List Value} (h : zeroDat zero = some z) (hv : allSome (vs.map cst) = some zero) : RepD F z vs := by
  unfold zeroDat at h
  split at h
  · rename_i d
    split at h
    · cases h
    · rename_i hd
      simp only [Option.some.injEq] at h
      subst h
      have hd' : d.isAgg = false := by simpa using hd
      have := decLeaves_none (F := F) (zero := [.dat d]) (ds := [d]) (fs := []) (by simp [decLeaves, decLeaf, hd']) hv
      simp only [AggD] at this
      obtain ⟨c, cs', rfl, _, h3, h4⟩ := this
      subst h4
      exact h3
  · simp only [Option.some.injEq] at h
    subst h
    have := decLeaves_none (F := F) (zero := [.nils]) (ds := [.sl []]) (fs := []) (by simp [decLeaves, decLeaf]) hv
    simp only [AggD] at this
    obtain ⟨c, cs', rfl, _, h3, h4⟩ := this
    subst h4
    exact h3
  · split at h
    · rename_i ds fs hds
      simp only [Option.some.injEq] at h
      subst h
      simp only [RepD]
      exact decLeaves_none hds hv
    · cases h

/-! ## Freezing -/

section
variable {P : Program} {o : Oper} {a : Act} {B : Base} {C : Ctx} {g : Nat → AVal}

/-- one array is frozen -/
theorem Inv.freeze1 (hI : Inv B C) {id : Id} {sz ver : Nat} {fz : Bool} {es : List Dat} (h : C.ρ id = some (.arr sz ver fz es)) :
    ∃ C' : Ctx, C'.w = C.w ∧ C'.μ = C.μ ∧ C'.ρ = updL C.ρ [(id, .arr sz ver true es)] ∧ Inv B C' ∧ Grow C C' ∧ RowD C'.F es (C.μ id).b (C.μ id).o sz := by
  have hρ' : ∀ (F : Froz), updL C.ρ [(id, .arr sz ver true es)] = fun j => if id = j then some (.arr sz ver true es) else C.ρ j := fun _ => rfl
  cases fz with
  | true =>
    have hsame : updL C.ρ [(id, .arr sz ver true es)] = C.ρ := by
      funext j
      simp only [updL]
      split
      · rename_i e; subst e; exact h.symm
      · rfl
    exact ⟨C, rfl, rfl, hsame.symm, hI, Grow.refl C, (hI.objs id _ h).2.2.2 rfl⟩
  | false =>
    obtain ⟨o1, ⟨cap, o2, o2'⟩, o3, o4⟩ := hI.objs id _ h
    obtain ⟨hown, hel⟩ := o3 rfl
    let T : Cells := fun b o => b = (C.μ id).b ∧ ∃ j, j < es.length * sz ∧ o = (C.μ id).o + j
    let F' : Froz := fun b o => if b = (C.μ id).b ∧ (C.μ id).o ≤ o ∧ o < (C.μ id).o + es.length * sz then C.w.cell? ⟨b, o, none⟩ else C.F b o
    let C' : Ctx := { w := C.w, F := F', μ := C.μ, ρ := updL C.ρ [(id, .arr sz ver true es)] }
    have hle : es.length * sz ≤ (C.μ id).n := by rw [o2]; exact Nat.mul_le_mul_right _ o2'
    have hF : C.F.le F' := by
      intro b o v hv
      simp only [F']
      split
      · rename_i hc
        obtain ⟨rfl, q1, q2⟩ := hc
        have := (hown (o - (C.μ id).o) (by omega)).2.2
        rw [show (C.μ id).o + (o - (C.μ id).o) = o by omega] at this
        rw [this] at hv; cases hv
      · exact hv
    have hrow : RowD F' es (C.μ id).b (C.μ id).o sz := by
      refine rowD_of fun i d hd => ?_
      obtain ⟨c, c1, c2, c3⟩ := hel i d hd
      refine ⟨c, c1, RepD.mono hF _ _ c2, fun j v hj => ?_⟩
      have hi := (List.getElem?_eq_some_iff.1 hd).1
      have hj' := (List.getElem?_eq_some_iff.1 hj).1
      have hlt : i * sz + j < es.length * sz := by
        calc i * sz + j < i * sz + sz := by omega
          _ = (i + 1) * sz := by rw [Nat.add_mul]; omega
          _ ≤ es.length * sz := Nat.mul_le_mul_right _ (by omega)
      have hF' : F' (C.μ id).b ((C.μ id).o + i * sz + j) = C.w.cell? ⟨(C.μ id).b, (C.μ id).o + i * sz + j, none⟩ := if_pos ⟨rfl, by omega, by omega⟩
      rw [hF']
      exact c3 j v hj
    have hg : Grow C C' := by
      refine ⟨hF, fun i L _ hb => ?_, fun i A _ ha => ?_⟩
      · by_cases e : id = i
        · subst e
          simp only [boxAt, h] at hb
          cases hb
        · simpa [boxAt, C', updL, e] using hb
      · simp only [arrAt, C', updL] at ha ⊢
        by_cases e : id = i
        · subst e
          rw [h] at ha
          simp only [Option.some.injEq] at ha
          subst ha
          exact ⟨⟨ver, sz, es.length, C.μ id⟩, by simp, Nat.le_refl _, fun _ => ⟨rfl, rfl, Nat.le_refl _⟩⟩
        · exact ⟨A, by simpa [e] using ha, Nat.le_refl _, fun _ => ⟨rfl, rfl, Nat.le_refl _⟩⟩
    refine ⟨C', rfl, rfl, rfl, ?_, hg, hrow⟩
    refine hI.step id T ?_ (Kept.refl _ _) ?_ ?_ ?_ hg ?_ ?_
    · rintro b o ⟨rfl, j, hj, rfl⟩
      exact ⟨_, h, rfl, j, by omega, rfl, rfl⟩
    · intro b o v hv
      simp only [C', F'] at hv
      split at hv
      · rename_i hc
        exact .inr (.inr ⟨hc.1, o - (C.μ id).o, by omega, by omega⟩)
      · exact .inl hv
    · intro b o v hv hn
      simp only [C', F'] at hv
      split at hv
      · exact hv
      · rw [hn] at hv; cases hv
    · intro i hi
      refine ⟨?_, rfl⟩
      simp only [C', updL]
      rw [if_neg (fun e => hi e.symm)]
    · intro o' ho'
      simp only [C', updL, if_true, Option.some.injEq] at ho'
      subst ho'
      exact ⟨o1, ⟨cap, o2, o2'⟩, fun e => by simp at e, fun _ => hrow⟩
    · intro o' ho' hw
      simp only [C', updL, if_true, Option.some.injEq] at ho'
      subst ho'
      simp [Obj.own] at hw

theorem updL_append (ρ : Look) (l l' : List (Id × Obj)) : updL ρ (l ++ l') = updL (updL ρ l) l' := by
  induction l generalizing ρ with
  | nil => rfl
  | cons p r ih => simp [updL, ih]

theorem frz_upd {ρ : Look} {id : Id} {sz ver : Nat} {fz : Bool} {es : List Dat} (h : ρ id = some (.arr sz ver fz es)) : ∀ (fs : List Id), frz (updL ρ [(id, .arr sz ver true es)]) fs = frz ρ fs
  | [] => rfl
  | i :: r => by
    simp only [frz, frz_upd h r]
    simp only [updL]
    by_cases e : id = i
    · subst e; simp [h]
    · simp [e]

/-- some arrays are frozen -/
theorem Inv.freeze (hI : Inv B C) : ∀ (fs : List Id), ∃ C' : Ctx, C'.w = C.w ∧ C'.μ = C.μ ∧ C'.ρ = updL C.ρ (frz C.ρ fs) ∧ Inv B C' ∧ Grow C C' ∧
    ∀ id ∈ fs, ∀ sz ver fz es, C.ρ id = some (.arr sz ver fz es) → RowD C'.F es (C.μ id).b (C.μ id).o sz := by
  intro fs
  induction fs generalizing C with
  | nil => exact ⟨C, rfl, rfl, rfl, hI, Grow.refl C, by simp⟩
  | cons id r ih =>
    have other : (∀ sz ver fz es, C.ρ id ≠ some (.arr sz ver fz es)) → ∃ C' : Ctx, C'.w = C.w ∧ C'.μ = C.μ ∧ C'.ρ = updL C.ρ (frz C.ρ (id :: r)) ∧ Inv B C' ∧ Grow C C' ∧
        ∀ i ∈ id :: r, ∀ sz ver fz es, C.ρ i = some (.arr sz ver fz es) → RowD C'.F es (C.μ i).b (C.μ i).o sz := by
      intro hno
      obtain ⟨C', h1, h2, h3, h4, h5, h6⟩ := ih hI
      refine ⟨C', h1, h2, ?_, h4, h5, fun i hi sz ver fz es he => ?_⟩
      · rw [h3]
        simp only [frz]
      · cases hi with
        | head => exact absurd he (hno _ _ _ _)
        | tail _ hi => exact h6 i hi sz ver fz es he
    cases e : C.ρ id with
    | none => exact other (by simp [e])
    | some ob =>
      cases ob with
      | box cs => exact other (by simp [e])
      | rarr v es => exact other (by simp [e])
      | arr sz ver fz es =>
        obtain ⟨C1, a1, a2, a3, a4, a5, a6⟩ := hI.freeze1 e
        obtain ⟨C2, b1, b2, b3, b4, b5, b6⟩ := ih a4
        refine ⟨C2, b1.trans a1, b2.trans a2, ?_, b4, a5.trans b5, fun i hi sz' ver' fz' es' he => ?_⟩
        · rw [b3, a3, frz_upd e]
          simp only [frz, e]
          rw [show (id, Obj.arr sz ver true es) :: frz C.ρ r = [(id, Obj.arr sz ver true es)] ++ frz C.ρ r from rfl, updL_append]
        · by_cases ei : i = id
          · subst ei
            rw [e] at he
            cases he
            exact RowD.mono b5.F _ _ _ _ a6
          · cases hi with
            | head => exact absurd rfl ei
            | tail _ hi =>
              have : C1.ρ i = some (.arr sz' ver' fz' es') := by
                rw [a3]; simp only [updL]; rw [if_neg (fun e => ei e.symm)]; exact he
              have := b6 i hi sz' ver' fz' es' this
              rwa [a2] at this

/-- a value read as data, once the arrays that it leads to are frozen -/
theorem decLeaf_rep {C' : Ctx} (hg : C.F.le C'.F) {x : AVal} {d : Dat} {fs : List Id} {val : Value}
    (hfz : ∀ id ∈ fs, ∀ sz ver fz es, C.ρ id = some (.arr sz ver fz es) → RowD C'.F es (C.μ id).b (C.μ id).o sz) (h : decLeaf C.ρ x = some (d, fs)) (hr : RepA C x val) : RepV C'.F d val := by
  unfold decLeaf at h
  split at h
  · simp only [Option.some.injEq, Prod.mk.injEq] at h
    rw [← h.1]
    simp only [RepA] at hr
    exact hr.mono hg
  · simp only [Option.some.injEq, Prod.mk.injEq] at h
    rw [← h.1]
    simp only [RepA] at hr
    subst hr
    exact repV_leaf rfl (by simp [RepD])
  · simp only [Option.some.injEq, Prod.mk.injEq] at h
    rw [← h.1]
    simp only [RepA] at hr
    obtain ⟨p, c, h1, h2⟩ := hr
    subst h1
    exact repV_leaf rfl (by simp [RepD])
  · rename_i id ver sz off len
    split at h
    · rename_i sz' ver' fz es hρ
      split at h
      · rename_i hc
        obtain ⟨rfl, rfl, hb⟩ := hc
        simp only [Option.some.injEq, Prod.mk.injEq] at h
        obtain ⟨rfl, rfl⟩ := h
        have hrow := hfz id (by simp) _ _ _ _ hρ
        simp only [RepA] at hr
        obtain ⟨A, p, cap, q1, q2, q3, q4, q5, q6⟩ := hr
        have hA : A = ⟨ver, sz, es.length, C.μ id⟩ := by simpa [arrAt, hρ] using q1.symm
        subst hA
        obtain ⟨g1, g2, g3, g4⟩ := q6 rfl
        subst q3
        refine repV_leaf rfl ?_
        simp only [RepD]
        have hlen : ((es.drop off).take len).length = len := by simp; omega
        refine ⟨p, cap, by rw [hlen], by omega, ?_⟩
        by_cases hl : (es.drop off).take len = []
        · exact .inl hl
        · right
          have : 0 < len := by
            rcases Nat.eq_zero_or_pos len with h | h
            · subst h; simp at hl
            · exact h
          exact ⟨_, _, sz, g4 (by omega), (hrow.drop off).take len⟩
      · cases h
    · cases h
  · cases h

theorem decLeaves_rep {C' : Ctx} (hg : C.F.le C'.F) : ∀ {l : List AVal} {ds : List Dat} {fs : List Id} {vs : List Value},
    (∀ id ∈ fs, ∀ sz ver fz es, C.ρ id = some (.arr sz ver fz es) → RowD C'.F es (C.μ id).b (C.μ id).o sz) → decLeaves C.ρ l = some (ds, fs) → RepL C l vs → AggD C'.F ds vs
  | [], ds, fs, vs, hfz, h, hr => by
    simp [decLeaves] at h
    rw [h.1]
    simpa [RepL, AggD] using hr
  | x :: l, ds, fs, vs, hfz, h, hr => by
    simp only [decLeaves] at h
    cases e1 : decLeaf C.ρ x with
    | none => simp [e1] at h
    | some p =>
      cases e2 : decLeaves C.ρ l with
      | none => simp [e1, e2] at h
      | some q =>
        simp only [e1, e2] at h
        split at h
        · cases h
        · rename_i hagg
          simp only [Option.some.injEq, Prod.mk.injEq] at h
          obtain ⟨rfl, rfl⟩ := h
          simp only [RepL] at hr
          obtain ⟨c, cs, rfl, h2, h3⟩ := hr
          have hd : p.1.isAgg = false := by simpa using hagg
          refine ⟨c, cs, rfl, hd, ?_, decLeaves_rep hg (fun id hid => hfz id (by simp [hid])) e2 h3⟩
          exact (decLeaf_rep hg (fun id hid => hfz id (by simp [hid])) e1 h2).cell hd

theorem dec_rep {C' : Ctx} (hg : C.F.le C'.F) {x : AVal} {d : Dat} {fs : List Id} {val : Value}
    (hfz : ∀ id ∈ fs, ∀ sz ver fz es, C.ρ id = some (.arr sz ver fz es) → RowD C'.F es (C.μ id).b (C.μ id).o sz) (h : dec C.ρ x = some (d, fs)) (hr : RepA C x val) : RepV C'.F d val := by
  unfold dec at h
  split at h
  · rename_i l
    split at h
    · rename_i ds fs' hds
      simp only [Option.some.injEq, Prod.mk.injEq] at h
      obtain ⟨rfl, rfl⟩ := h
      simp only [RepA] at hr
      obtain ⟨cs, rfl, h1, h2, h3⟩ := hr
      exact repV_agg (decLeaves_rep hg hfz hds h1)
    · cases h
  · exact decLeaf_rep hg hfz h hr

/-- values as the elements of a row -/
theorem decAll_rep {C' : Ctx} (hg : C.F.le C'.F) {sz : Nat} : ∀ {l : List AVal} {ds : List Dat} {fs : List Id} {vs : List Value},
    (∀ id ∈ fs, ∀ sz ver fz es, C.ρ id = some (.arr sz ver fz es) → RowD C'.F es (C.μ id).b (C.μ id).o sz) → decAll C.ρ l = some (ds, fs) → RepL C l vs → ds.all (fun d => d.width == sz) = true →
    FlatD C'.F sz ds (vs.map (·.cells.toList)).flatten ∧ (∀ v ∈ vs, v.cells.size = sz) ∧ ds.length = vs.length
  | [], ds, fs, vs, hfz, h, hr, hw => by
    simp [decAll] at h
    simp only [RepL] at hr
    subst hr
    rw [h.1]
    simp [FlatD]
  | x :: l, ds, fs, vs, hfz, h, hr, hw => by
    simp only [decAll] at h
    cases e1 : dec C.ρ x with
    | none => simp [e1] at h
    | some p =>
      cases e2 : decAll C.ρ l with
      | none => simp [e1, e2] at h
      | some q =>
        simp only [e1, e2, Option.some.injEq, Prod.mk.injEq] at h
        obtain ⟨rfl, rfl⟩ := h
        simp only [RepL] at hr
        obtain ⟨c, cs, rfl, h2, h3⟩ := hr
        simp only [List.all_cons, Bool.and_eq_true, beq_iff_eq] at hw
        have hv := dec_rep hg (fun id hid => hfz id (by simp [hid])) e1 h2
        obtain ⟨i1, i2, i3⟩ := decAll_rep hg (fun id hid => hfz id (by simp [hid])) e2 h3 hw.2
        have hc : c.cells.toList.length = sz := by rw [hv.1.length]; exact hw.1
        refine ⟨?_, ?_, by simp [i3]⟩
        · simp only [List.map_cons, List.flatten_cons, FlatD]
          exact ⟨_, _, rfl, hc, hv.1, i1⟩
        · intro v hv'
          cases hv' with
          | head => simpa using hc
          | tail _ hv' => exact i2 v hv'

end
end Go.Am
