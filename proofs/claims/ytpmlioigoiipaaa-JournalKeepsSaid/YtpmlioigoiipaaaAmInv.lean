/- The abstract machine: the invariant that ties a store of the abstract machine to a world of the model, and how it is kept by one step. -/
import Derived.Test.YtpmlioigoiipaaaAmRep
import Derived.Laws.IdiomCopy
import Derived.ChangeFn
set_option linter.unusedVariables false
set_option linter.unusedSimpArgs false
namespace Go.Am

/-! ## What a step leaves alone -/

abbrev Cells := Nat → Nat → Prop

def mayOf (T : Cells) : MemPlace → Prop := fun p => ∃ b o, p = .cell b o ∧ T b o

structure Kept (w w' : World) (T : Cells) : Prop where
  but : w.keptBut w' (mayOf T)
  frozen : ∀ a, w'.frozen? a = w.frozen? a
  size : w.heap.size ≤ w'.heap.size

theorem Kept.refl (w : World) (T : Cells) : Kept w w T := ⟨World.keptBut_refl _ _, fun _ => rfl, Nat.le_refl _⟩

theorem Kept.mono {w w' : World} {T T' : Cells} (h : Kept w w' T) (ht : ∀ b o, b < w.heap.size → T b o → T' b o) : Kept w w' T' := by
  refine ⟨⟨h.but.1, h.but.2.1, fun i hi => ?_⟩, h.frozen, h.size⟩
  have := h.but.2.2 i hi
  split at this
  · refine ⟨this.1, this.2.1, this.2.2.1, fun j hj => this.2.2.2 j fun hm => hj ?_⟩
    obtain ⟨b, o, e, hT⟩ := hm
    cases e
    exact ⟨_, _, rfl, ht _ _ hi hT⟩
  · refine orMap this (fun hm => ?_) id
    obtain ⟨b, o, e, _⟩ := hm
    cases e
  · exact this

theorem Kept.cell {w w' : World} {T : Cells} (h : Kept w w' T) {b o : Nat} (hb : b < w.heap.size) (hT : ¬ T b o) : w'.cell? ⟨b, o, none⟩ = w.cell? ⟨b, o, none⟩ :=
  h.but.cell hb (fun ⟨_, _, e, ht⟩ => by cases e; exact hT ht)

theorem Kept.cell_some {w w' : World} {T : Cells} (h : Kept w w' T) {b o : Nat} {v : Value} (hv : w.cell? ⟨b, o, none⟩ = some v) (hT : ¬ T b o) : w'.cell? ⟨b, o, none⟩ = some v := by
  rw [h.cell (by simpa using World.block_lt_of_cell? _ _ hv) hT, hv]

theorem cellsAt_of_cells {w : World} {b : Nat} {c : Array Value} {t : TypeId} {fr : Nat × Nat} (h : w.heap[b]? = some (.cells c t fr)) (o : Nat) : w.cell? ⟨b, o, none⟩ = c[o]? := by
  simp [World.cell?, h]

theorem Kept.some {w w' : World} {T : Cells} (h : Kept w w' T) {b o : Nat} {v : Value} (hv : w.cell? ⟨b, o, none⟩ = some v) : ∃ u, w'.cell? ⟨b, o, none⟩ = some u := by
  have hb : b < w.heap.size := by simpa using World.block_lt_of_cell? _ _ hv
  have hk := h.but.2.2 b hb
  split at hk
  · rename_i c t fr c' t' fr' h1 h2
    rw [cellsAt_of_cells h1] at hv
    rw [cellsAt_of_cells h2]
    have : o < c'.size := by
      have := (Array.getElem?_eq_some_iff.1 hv).1
      omega
    exact ⟨c'[o], by simp [this]⟩
  · rename_i h1 h2
    simp [World.cell?, h1] at hv
  · rename_i h1 h2
    refine ⟨v, ?_⟩
    unfold World.cell? at hv ⊢
    simp only [hk]
    exact hv

theorem Kept.trans {w w' w'' : World} {T T' U : Cells} (h : Kept w w' T) (h' : Kept w' w'' T') (ht : ∀ b o, b < w.heap.size → T b o → U b o) (ht' : ∀ b o, b < w.heap.size → T' b o → U b o) : Kept w w'' U := by
  refine ⟨⟨h'.but.1.trans h.but.1, h'.but.2.1.trans h.but.2.1, fun i hi => ?_⟩, fun a => (h'.frozen a).trans (h.frozen a), Nat.le_trans h.size h'.size⟩
  have k1 := h.but.2.2 i hi
  have k2 := h'.but.2.2 i (Nat.lt_of_lt_of_le hi h.size)
  have nm : ∀ {V : Cells}, ¬ mayOf V (.map i) := fun ⟨_, _, e, _⟩ => by cases e
  cases e0 : w.heap[i]? with
  | none => simp [e0] at k1; simp [Array.getElem?_eq_none_iff] at e0; omega
  | some x0 =>
    cases e1 : w'.heap[i]? with
    | none => have := Nat.lt_of_lt_of_le hi h.size; simp [Array.getElem?_eq_none_iff] at e1; omega
    | some x1 =>
      cases e2 : w''.heap[i]? with
      | none => have := Nat.lt_of_lt_of_le hi (Nat.le_trans h.size h'.size); simp [Array.getElem?_eq_none_iff] at e2; omega
      | some x2 =>
        rw [e0, e1] at k1
        rw [e1, e2] at k2
        cases x0 with
        | cells c t fr =>
          cases x1 with
          | cells c1 t1 fr1 =>
            cases x2 with
            | cells c2 t2 fr2 =>
              simp only at k1 k2 ⊢
              refine ⟨k2.1.trans k1.1, k2.2.1.trans k1.2.1, k2.2.2.1.trans k1.2.2.1, fun j hj => ?_⟩
              rw [k2.2.2.2 j, k1.2.2.2 j]
              · rintro ⟨b, o, e, hT⟩; cases e; exact hj ⟨_, _, rfl, ht _ _ hi hT⟩
              · rintro ⟨b, o, e, hT⟩; cases e; exact hj ⟨_, _, rfl, ht' _ _ hi hT⟩
            | _ => simp at k2
          | _ => simp at k1
        | map es clock =>
          cases x1 with
          | map es1 clock1 =>
            cases x2 with
            | map es2 clock2 =>
              simp only at k1 k2 ⊢
              have k1' := k1.resolve_left nm
              have k2' := k2.resolve_left nm
              exact .inr ⟨k2'.1.trans k1'.1, k2'.2.trans k1'.2⟩
            | _ => simp at k2
          | _ => simp at k1
        | _ => simp_all

theorem Kept.alloc (w : World) (c : Array Value) (t : TypeId) (T : Cells) : Kept w (w.alloc (.cells c t)) T := by
  refine ⟨⟨rfl, rfl, fun i hi => ?_⟩, fun a => ?_, by simp⟩
  · have : (w.alloc (.cells c t)).heap[i]? = w.heap[i]? := by
      simp only [World.alloc, Array.getElem?_push]; rw [if_neg (by omega)]
    rw [this]
    exact (World.keptBut_refl w _).2.2 i hi
  · by_cases h : a.block = w.heap.size
    · cases a with
      | mk b o s =>
        simp only at h
        subst h
        have e1 : (w.alloc (.cells c t)).frozen? ⟨w.heap.size, o, s⟩ = false := by
          simp only [World.alloc, World.frozen?, Array.getElem?_push, if_true]
          simp
        have e2 : w.frozen? ⟨w.heap.size, o, s⟩ = false := by simp [World.frozen?]
        rw [e1, e2]
    · exact World.frozen?_alloc_old w _ a h

theorem Kept.setCells (w : World) (b o : Nat) (vs : List Value) (T : Cells) (hT : ∀ j, j < vs.length → T b (o + j)) : Kept w (w.setCells b o vs) T := by
  refine ⟨World.keptBut_setCells b vs o w fun j hj => ⟨_, _, rfl, hT j hj⟩, fun a => World.frozen?_setCells b vs o w a, ?_⟩
  have : ∀ (vs : List Value) (o : Nat) (w : World), (w.setCells b o vs).heap.size = w.heap.size := by
    intro vs
    induction vs with
    | nil => intro o w; rfl
    | cons v r ih => intro o w; rw [World.setCells, ih, World.size_setCell]
  rw [this]; exact Nat.le_refl _

theorem Kept.drew (w : World) (T : Cells) : Kept w w.drew T :=
  ⟨⟨rfl, rfl, fun i hi => (World.keptBut_refl w _).2.2 i hi⟩, fun _ => rfl, Nat.le_refl _⟩

/-! ## Objects -/

def Obj.own : Obj → Bool
  | .arr _ _ fz _ => !fz
  | _ => true

def OwnOK (C : Ctx) (L : Loc) : Prop :=
  ∀ j, j < L.n → (∃ v, C.w.cell? ⟨L.b, L.o + j, none⟩ = some v) ∧ C.w.frozen? ⟨L.b, L.o + j, none⟩ = false ∧ C.F L.b (L.o + j) = none

def ObjOK (C : Ctx) (L : Loc) : Obj → Prop
  | .box cs => L.n = cs.length ∧ cs.all AVal.leaf = true ∧ OwnOK C L ∧
      ∀ (j : Nat) (a : AVal), cs[j]? = some a → ∃ v, C.w.cell? ⟨L.b, L.o + j, none⟩ = some v ∧ RepA C a v
  | .arr sz ver fz es => 1 ≤ sz ∧ (∃ cap, L.n = cap * sz ∧ es.length ≤ cap) ∧
      (fz = false → OwnOK C L ∧ ∀ (i : Nat) (d : Dat), es[i]? = some d → ∃ cs, cs.length = sz ∧ RepD C.F d cs ∧ ∀ (j : Nat) (v : Value), cs[j]? = some v → C.w.cell? ⟨L.b, L.o + i * sz + j, none⟩ = some v) ∧
      (fz = true → RowD C.F es L.b L.o sz)
  | .rarr ver es => es.length ≤ L.n ∧ es.all AVal.leaf = true ∧ OwnOK C L ∧
      ∀ (j : Nat) (a : AVal), es[j]? = some a → ∃ v, C.w.cell? ⟨L.b, L.o + j, none⟩ = some v ∧ RepA C a v

structure Base where
  w : World
  F : Froz
  O : Cells

structure Inv (B : Base) (C : Ctx) : Prop where
  objs : ∀ id o, C.ρ id = some o → ObjOK C (C.μ id) o
  disj : ∀ id id' o o', C.ρ id = some o → C.ρ id' = some o' → o.own = true → o'.own = true → id ≠ id' →
    ∀ j j', j < (C.μ id).n → j' < (C.μ id').n → ¬ ((C.μ id).b = (C.μ id').b ∧ (C.μ id).o + j = (C.μ id').o + j')
  own : ∀ id o, C.ρ id = some o → o.own = true → ∀ j, j < (C.μ id).n → B.O (C.μ id).b ((C.μ id).o + j) ∨ B.w.heap.size ≤ (C.μ id).b
  kept : Kept B.w C.w B.O
  Fw : ∀ b o v, C.F b o = some v → C.w.cell? ⟨b, o, none⟩ = some v
  Fsub : B.F.le C.F
  Fnew : ∀ b o v, C.F b o = some v → B.F b o = some v ∨ B.O b o ∨ B.w.heap.size ≤ b

theorem ObjOK.ownOK {C : Ctx} {L : Loc} {o : Obj} (h : ObjOK C L o) (ho : o.own = true) : OwnOK C L := by
  cases o with
  | box cs => exact h.2.2.1
  | arr sz ver fz es =>
    simp only [Obj.own, Bool.not_eq_true'] at ho
    exact (h.2.2.1 ho).1
  | rarr ver es => exact h.2.2.1

/-- an object that the step did not touch -/
theorem ObjOK.keep {C C' : Ctx} {L : Loc} {o : Obj} {T : Cells} (h : ObjOK C L o) (hg : Grow C C') (hk : Kept C.w C'.w T) (hFn : ∀ b o v, C'.F b o = some v → C.F b o = some v ∨ C.w.heap.size ≤ b ∨ T b o)
    (hT : o.own = true → ∀ j, j < L.n → ¬ T L.b (L.o + j)) : ObjOK C' L o := by
  have hown : o.own = true → OwnOK C' L := by
    intro ho j hj
    obtain ⟨⟨v, hv⟩, hf, hF⟩ := h.ownOK ho j hj
    refine ⟨⟨v, hk.cell_some hv (hT ho j hj)⟩, by rw [hk.frozen]; exact hf, ?_⟩
    cases e : C'.F L.b (L.o + j) with
    | none => rfl
    | some u =>
      rcases hFn _ _ _ e with h1 | h1 | h1
      · rw [hF] at h1; cases h1
      · have := World.block_lt_of_cell? _ _ hv; simp at this; omega
      · exact absurd h1 (hT ho j hj)
  cases o with
  | box cs =>
    refine ⟨h.1, h.2.1, hown rfl, fun j a ha => ?_⟩
    obtain ⟨v, hv, hr⟩ := h.2.2.2 j a ha
    have hj : j < L.n := by rw [h.1]; exact (List.getElem?_eq_some_iff.1 ha).1
    exact ⟨v, hk.cell_some hv (hT rfl j hj), hr.grow hg⟩
  | rarr ver es =>
    refine ⟨h.1, h.2.1, hown rfl, fun j a ha => ?_⟩
    obtain ⟨v, hv, hr⟩ := h.2.2.2 j a ha
    have hj : j < L.n := Nat.lt_of_lt_of_le (List.getElem?_eq_some_iff.1 ha).1 h.1
    exact ⟨v, hk.cell_some hv (hT rfl j hj), hr.grow hg⟩
  | arr sz ver fz es =>
    obtain ⟨h1, ⟨cap, h2, h2'⟩, h3, h4⟩ := h
    refine ⟨h1, ⟨cap, h2, h2'⟩, fun e => ?_, fun e => RowD.mono hg.F _ _ _ _ (h4 e)⟩
    have ho : (Obj.arr sz ver fz es).own = true := by simp [Obj.own, e]
    refine ⟨hown ho, fun i d hd => ?_⟩
    obtain ⟨cs, h5, h6, h7⟩ := (h3 e).2 i d hd
    refine ⟨cs, h5, RepD.mono hg.F _ _ h6, fun j v hv => ?_⟩
    have hi : i < es.length := (List.getElem?_eq_some_iff.1 hd).1
    have hj : j < sz := by rw [← h5]; exact (List.getElem?_eq_some_iff.1 hv).1
    have hlt : i * sz + j < L.n := by
      rw [h2]
      calc i * sz + j < i * sz + sz := by omega
        _ = (i + 1) * sz := by rw [Nat.add_mul]; omega
        _ ≤ cap * sz := Nat.mul_le_mul_right _ (by omega)
    have := hT ho (i * sz + j) hlt
    exact hk.cell_some (h7 j v hv) (by rwa [Nat.add_assoc])

/-- ONE STEP: at most the object id has changed, at most its own cells were written; what is frozen anew lies in new blocks or in those cells. -/
theorem Inv.step {B : Base} {C C' : Ctx} (h : Inv B C) (id : Id) (T : Cells)
    (hT : ∀ b o, T b o → ∃ ob, C.ρ id = some ob ∧ ob.own = true ∧ ∃ j, j < (C.μ id).n ∧ b = (C.μ id).b ∧ o = (C.μ id).o + j)
    (hk : Kept C.w C'.w T)
    (hFn : ∀ b o v, C'.F b o = some v → C.F b o = some v ∨ C.w.heap.size ≤ b ∨ T b o)
    (hFw : ∀ b o v, C'.F b o = some v → C.F b o = none → C'.w.cell? ⟨b, o, none⟩ = some v)
    (hρ : ∀ id', id' ≠ id → C'.ρ id' = C.ρ id' ∧ C'.μ id' = C.μ id')
    (hg : Grow C C')
    (hnew : ∀ o', C'.ρ id = some o' → ObjOK C' (C'.μ id) o')
    (hloc : ∀ o', C'.ρ id = some o' → o'.own = true → C.w.heap.size ≤ (C'.μ id).b ∨ (C'.μ id).n = 0 ∨ (∃ o, C.ρ id = some o ∧ o.own = true ∧ C'.μ id = C.μ id)) :
    Inv B C' := by
  have cellOf : ∀ id o, C.ρ id = some o → o.own = true → ∀ j, j < (C.μ id).n → (C.μ id).b < C.w.heap.size := by
    intro id o ho hw j hj
    obtain ⟨⟨v, hv⟩, _⟩ := (h.objs id o ho).ownOK hw j hj
    simpa using World.block_lt_of_cell? _ _ hv
  have notT : ∀ id' o', id' ≠ id → C.ρ id' = some o' → o'.own = true → ∀ j, j < (C.μ id').n → ¬ T (C.μ id').b ((C.μ id').o + j) := by
    intro id' o' hne ho' hw' j hj hTT
    obtain ⟨ob, ho, hw, j0, hj0, hb, hoo⟩ := hT _ _ hTT
    exact h.disj id' id o' ob ho' ho hw' hw hne j j0 hj hj0 ⟨hb, hoo⟩
  have TF : ∀ b o, T b o → C.F b o = none := by
    intro b o hTT
    obtain ⟨ob, ho, hw, j0, hj0, rfl, rfl⟩ := hT _ _ hTT
    exact ((h.objs id ob ho).ownOK hw j0 hj0).2.2
  have TO : ∀ b o, T b o → B.O b o ∨ B.w.heap.size ≤ b := by
    intro b o hTT
    obtain ⟨ob, ho, hw, j0, hj0, rfl, rfl⟩ := hT _ _ hTT
    exact h.own id ob ho hw j0 hj0
  refine ⟨fun id' o' ho' => ?_, fun i1 i2 o1 o2 ho1 ho2 hw1 hw2 hne j1 j2 hj1 hj2 => ?_, fun id' o' ho' hw' j hj => ?_, ?_, fun b o v hv => ?_, fun b o v hv => hg.F _ _ _ (h.Fsub _ _ _ hv), fun b o v hv => ?_⟩
  · by_cases e : id' = id
    · subst e; exact hnew o' ho'
    · obtain ⟨e1, e2⟩ := hρ id' e
      rw [e1] at ho'
      rw [e2]
      exact (h.objs id' o' ho').keep hg hk hFn (fun hw => notT id' o' e ho' hw)
  · by_cases e1 : i1 = id
    · have e2 : i2 ≠ id := fun e2 => hne (e1.trans e2.symm)
      obtain ⟨q1, q2⟩ := hρ i2 e2
      rw [q1] at ho2
      rw [q2] at hj2 ⊢
      subst e1
      rcases hloc o1 ho1 hw1 with hl | hl | ⟨o, hl1, hl2, hl3⟩
      · intro ⟨hb, _⟩
        have := cellOf i2 o2 ho2 hw2 j2 hj2
        omega
      · omega
      · rw [hl3] at hj1 ⊢
        exact h.disj i1 i2 o o2 hl1 ho2 hl2 hw2 hne j1 j2 hj1 hj2
    · obtain ⟨q1, q2⟩ := hρ i1 e1
      rw [q1] at ho1
      rw [q2] at hj1 ⊢
      by_cases e2 : i2 = id
      · subst e2
        rcases hloc o2 ho2 hw2 with hl | hl | ⟨o, hl1, hl2, hl3⟩
        · intro ⟨hb, _⟩
          have := cellOf i1 o1 ho1 hw1 j1 hj1
          omega
        · omega
        · rw [hl3] at hj2 ⊢
          exact h.disj i1 i2 o1 o ho1 hl1 hw1 hl2 hne j1 j2 hj1 hj2
      · obtain ⟨q3, q4⟩ := hρ i2 e2
        rw [q3] at ho2
        rw [q4] at hj2 ⊢
        exact h.disj i1 i2 o1 o2 ho1 ho2 hw1 hw2 hne j1 j2 hj1 hj2
  · by_cases e : id' = id
    · subst e
      rcases hloc o' ho' hw' with hl | hl | ⟨o, hl1, hl2, hl3⟩
      · exact .inr (Nat.le_trans h.kept.size hl)
      · omega
      · rw [hl3] at hj ⊢
        exact h.own id' o hl1 hl2 j hj
    · obtain ⟨q1, q2⟩ := hρ id' e
      rw [q1] at ho'
      rw [q2] at hj ⊢
      exact h.own id' o' ho' hw' j hj
  · refine h.kept.trans hk (fun _ _ _ h => h) fun b o hb hTT => ?_
    rcases TO b o hTT with h1 | h1
    · exact h1
    · omega
  · cases e : C.F b o with
    | none => exact hFw b o v hv e
    | some u =>
      have := hg.F _ _ _ e
      rw [hv] at this
      cases this
      exact hk.cell_some (h.Fw _ _ _ e) (fun hTT => by rw [TF _ _ hTT] at e; cases e)
  · rcases hFn b o v hv with h1 | h1 | h1
    · exact h.Fnew _ _ _ h1
    · exact .inr (.inr (Nat.le_trans h.kept.size h1))
    · exact .inr (TO _ _ h1)

/-- a step that changes no object and writes no cell: a draw, a new frozen block -/
theorem Inv.plain {B : Base} {C C' : Ctx} (h : Inv B C) (hk : Kept C.w C'.w (fun _ _ => False))
    (hF : C.F.le C'.F) (hFn : ∀ b o v, C'.F b o = some v → C.F b o = some v ∨ C.w.heap.size ≤ b)
    (hFw : ∀ b o v, C'.F b o = some v → C.F b o = none → C'.w.cell? ⟨b, o, none⟩ = some v)
    (hρ : C'.ρ = C.ρ) (hμ : C'.μ = C.μ) : Inv B C' ∧ Grow C C' := by
  have hg : Grow C C' := ⟨hF, fun id L _ hb => by simpa [boxAt, hρ, hμ] using hb, fun id A _ ha => ⟨A, by simpa [arrAt, hρ, hμ] using ha, Nat.le_refl _, fun _ => ⟨rfl, rfl, Nat.le_refl _⟩⟩⟩
  refine ⟨?_, hg⟩
  refine h.step (0, 0) (fun _ _ => False) (fun _ _ h => h.elim) hk (fun b o v hv => orMap (hFn b o v hv) id .inl) hFw (fun _ _ => by simp [hρ, hμ]) hg ?_ ?_
  · intro o' ho'
    rw [hρ] at ho'
    rw [hμ]
    exact (h.objs _ o' ho').keep hg hk (fun b o v hv => orMap (hFn b o v hv) id .inl) (fun _ _ _ => id)
  · intro o' ho' hw'
    rw [hρ] at ho'
    exact .inr (.inr ⟨o', ho', hw', by rw [hμ]⟩)

/-- a draw -/
theorem Inv.drew {B : Base} {C : Ctx} (h : Inv B C) : Inv B { C with w := C.w.drew } ∧ Grow C { C with w := C.w.drew } :=
  h.plain (C' := { C with w := C.w.drew }) (Kept.drew _ _) (fun _ _ _ h => h) (fun _ _ _ h => .inl h) (fun b o v hv e => by simp only at hv; rw [e] at hv; cases hv) rfl rfl

/-- the cells of a new block as frozen ones -/
def Froz.add (F : Froz) (b : Nat) (cs : List Value) : Froz := fun b' o => if b' = b then cs[o]? else F b' o

/-- a new block, frozen at once -/
theorem Inv.allocF {B : Base} {C : Ctx} (h : Inv B C) (cs : Array Value) (t : TypeId) :
    let C' : Ctx := { C with w := C.w.alloc (.cells cs t), F := C.F.add C.w.heap.size cs.toList }
    Inv B C' ∧ Grow C C' := by
  have hnone : ∀ o, C.F C.w.heap.size o = none := by
    intro o
    cases e : C.F C.w.heap.size o with
    | none => rfl
    | some v => have := World.block_lt_of_cell? _ _ (h.Fw _ _ _ e); simp at this
  refine h.plain (C' := { C with w := C.w.alloc (.cells cs t), F := C.F.add C.w.heap.size cs.toList }) (Kept.alloc _ _ _ _) (fun b o v hv => ?_) (fun b o v hv => ?_) (fun b o v hv e => ?_) rfl rfl
  · simp only [Froz.add]
    split
    · rename_i e; subst e; rw [hnone] at hv; cases hv
    · exact hv
  · simp only [Froz.add] at hv
    split at hv
    · rename_i e; subst e; exact .inr (Nat.le_refl _)
    · exact .inl hv
  · simp only [Froz.add] at hv
    split at hv
    · rename_i e'; subst e'; simpa using hv
    · rw [e] at hv; cases hv

theorem cellsAt_add (F : Froz) (b : Nat) (cs : List Value) : cellsAt (F.add b cs) b 0 cs := by
  intro j v hj
  simp [Froz.add, hj]

/-- the version that an object made anew under an id bears -/
theorem newVer_lt {ρ : Look} {id : Id} {nv : Nat} (h : newVer ρ id = some nv) : (∀ cs, ρ id ≠ some (.box cs)) ∧ (∀ sz v fz es, ρ id = some (.arr sz v fz es) → v < nv) ∧ (∀ v es, ρ id = some (.rarr v es) → v < nv) := by
  unfold newVer at h
  cases e : ρ id with
  | none => simp
  | some o =>
    cases o with
    | box cs => simp [e] at h
    | arr sz v fz es =>
      simp [e] at h
      refine ⟨by simp, fun sz' v' fz' es' q => ?_, by simp⟩
      cases q
      omega
    | rarr v es =>
      simp [e] at h
      refine ⟨by simp, by simp, fun v' es' q => ?_⟩
      cases q
      omega

/-- A NEW OBJECT IN A NEW BLOCK, or one without cells. -/
theorem Inv.allocO {B : Base} {C : Ctx} (h : Inv B C) (w' : World) (hk : Kept C.w w' (fun _ _ => False)) (id : Id) (o : Obj) (L : Loc)
    (hold : (∀ cs, C.ρ id ≠ some (.box cs)) ∧ ∀ A, arrAt C id = some A → match o with
      | .box _ => False
      | .arr _ v _ _ => A.ver < v
      | .rarr v _ => A.ver < v)
    (hL : C.w.heap.size ≤ L.b ∨ L.n = 0)
    (hobj : ∀ (C' : Ctx), C'.w = w' → C'.F = C.F → Grow C C' → ObjOK C' L o) :
    let C' : Ctx := { w := w', F := C.F, μ := fun i => if i = id then L else C.μ i, ρ := fun i => if i = id then some o else C.ρ i }
    Inv B C' ∧ Grow C C' ∧ C'.ρ = updL C.ρ [(id, o)] := by
  intro C'
  have hg : Grow C C' := by
    refine ⟨fun _ _ _ h => h, fun i M _ hb => ?_, fun i A _ ha => ?_⟩
    · by_cases e : i = id
      · subst e
        unfold boxAt at hb
        cases e' : C.ρ i with
        | none => simp [e'] at hb
        | some ob => cases ob <;> simp [e'] at hb; exact absurd e' (hold.1 _)
      · simpa [boxAt, C', e] using hb
    · by_cases e : i = id
      · subst e
        have := hold.2 A ha
        cases o with
        | box cs => exact this.elim
        | arr sz v fz es => exact ⟨⟨v, sz, es.length, L⟩, by simp [arrAt, C'], Nat.le_of_lt this, fun e => absurd e (by simp only at this ⊢; omega)⟩
        | rarr v es => exact ⟨⟨v, 1, es.length, L⟩, by simp [arrAt, C'], Nat.le_of_lt this, fun e => absurd e (by simp only at this ⊢; omega)⟩
      · exact ⟨A, by simpa [arrAt, C', e] using ha, Nat.le_refl _, fun _ => ⟨rfl, rfl, Nat.le_refl _⟩⟩
  refine ⟨?_, hg, ?_⟩
  · refine h.step id (fun _ _ => False) (fun _ _ h => h.elim) hk (fun b o v hv => .inl hv) (fun b o v hv e => by simp only [C'] at hv; rw [e] at hv; cases hv) (fun i hi => by simp [C', hi]) hg ?_ ?_
    · intro o' ho'
      have : o' = o := by simpa [C'] using ho'.symm
      subst this
      have e : C'.μ id = L := by simp [C']
      rw [e]
      exact hobj C' rfl rfl hg
    · intro o' _ _
      have e : C'.μ id = L := by simp [C']
      rw [e]
      exact orMap hL (fun x => x) .inl
  · funext i
    by_cases e : i = id
    · subst e; simp [C', updL]
    · have e' : ¬ id = i := fun x => e x.symm
      simp [C', updL, e, e']

end Go.Am
