/- The abstract machine: a call of a function, once the callee is known to be sound. -/
import Derived.Test.YtpmlioigoiipaaaAmSound
set_option linter.unusedVariables false
set_option linter.unusedSimpArgs false
namespace Go.Am

/-! ## What is handed over -/

theorem collect_spec (ρ : Look) : ∀ (n : Nat) (todo done res : List Id), collect ρ n todo done = some res → done.Nodup → (∀ i ∈ done, ∃ o, ρ i = some o ∧ ∀ j ∈ o.ids, j ∈ done ∨ j ∈ todo) →
    res.Nodup ∧ (∀ i ∈ done, i ∈ res) ∧ (∀ i ∈ todo, i ∈ res) ∧ (∀ i ∈ res, ∃ o, ρ i = some o ∧ ∀ j ∈ o.ids, j ∈ res) ∧ ∃ l, res = done ++ l
  | 0, todo, done, res, h, _, _ => by simp [collect] at h
  | n + 1, [], done, res, h, hn, hc => by
    simp only [collect, Option.some.injEq] at h
    subst h
    refine ⟨hn, fun _ h => h, by simp, fun i hi => ?_, [], by simp⟩
    obtain ⟨o, h1, h2⟩ := hc i hi
    exact ⟨o, h1, fun j hj => (h2 j hj).resolve_right (by simp)⟩
  | n + 1, id :: todo, done, res, h, hn, hc => by
    simp only [collect] at h
    split at h
    · rename_i hid
      obtain ⟨r1, r2, r3, r4, r5⟩ := collect_spec ρ n todo done res h hn (fun i hi => by
        obtain ⟨o, h1, h2⟩ := hc i hi
        refine ⟨o, h1, fun j hj => ?_⟩
        rcases h2 j hj with h3 | h3
        · exact .inl h3
        · cases h3 with
          | head => exact .inl hid
          | tail _ h3 => exact .inr h3)
      refine ⟨r1, r2, fun i hi => ?_, r4, r5⟩
      cases hi with
      | head => exact r2 _ hid
      | tail _ hi => exact r3 i hi
    · rename_i hid
      split at h
      · cases h
      · rename_i o ho
        obtain ⟨r1, r2, r3, r4, l, r5⟩ := collect_spec ρ n (todo ++ o.ids) (done ++ [id]) res h (by
          rw [List.nodup_append]
          exact ⟨hn, by simp, fun a ha b hb => by simp at hb; subst hb; intro e; subst e; exact hid ha⟩) (fun i hi => by
          rcases List.mem_append.1 hi with hi | hi
          · obtain ⟨o', h1, h2⟩ := hc i hi
            refine ⟨o', h1, fun j hj => ?_⟩
            rcases h2 j hj with h3 | h3
            · exact .inl (List.mem_append.2 (.inl h3))
            · cases h3 with
              | head => exact .inl (by simp)
              | tail _ h3 => exact .inr (List.mem_append.2 (.inl h3))
          · simp at hi
            subst hi
            exact ⟨o, ho, fun j hj => .inr (List.mem_append.2 (.inr hj))⟩)
        refine ⟨r1, fun i hi => r2 i (List.mem_append.2 (.inl hi)), fun i hi => ?_, r4, [id] ++ l, by simp [r5]⟩
        cases hi with
        | head => exact r2 _ (by simp)
        | tail _ hi => exact r3 i (List.mem_append.2 (.inl hi))

theorem gather_spec {ρ : Look} : ∀ {order : List Id} {os : List Obj}, gather ρ order = some os → os.length = order.length ∧ ∀ (j : Nat) (i : Id), order[j]? = some i → os[j]? = ρ i
  | [], os, h => by simp [gather] at h; subst h; simp
  | id :: r, os, h => by
    simp only [gather] at h
    split at h
    · rename_i o os' ho hos
      simp only [Option.some.injEq] at h
      subst h
      obtain ⟨h1, h2⟩ := gather_spec hos
      refine ⟨by simp [h1], fun j i hj => ?_⟩
      cases j with
      | zero => simp at hj; subst hj; simp [ho]
      | succ j => simp at hj; simpa using h2 j i hj
    · cases h

theorem indexIn_get : ∀ {order : List Id} {i : Id}, i ∈ order → order[indexIn order i]? = some i
  | [], i, h => by simp at h
  | k :: r, i, h => by
    simp only [indexIn]
    split
    · rename_i e; subst e; rfl
    · rename_i e
      have : i ∈ r := by
        cases h with
        | head => exact absurd rfl e
        | tail _ h => exact h
      simpa using indexIn_get this

theorem indexIn_lt {order : List Id} {i : Id} (h : i ∈ order) : indexIn order i < order.length := (List.getElem?_eq_some_iff.1 (indexIn_get h)).1

theorem indexIn_of {order : List Id} (hn : order.Nodup) : ∀ {j : Nat} {i : Id}, order[j]? = some i → indexIn order i = j := by
  intro j i h
  have h1 := indexIn_get (List.mem_of_getElem? h)
  have h2 := (List.getElem?_eq_some_iff.1 h)
  have h3 := (List.getElem?_eq_some_iff.1 h1)
  obtain ⟨l2, e2⟩ := h2
  obtain ⟨l3, e3⟩ := h3
  exact (List.getElem_inj hn).1 (e3.trans e2.symm)

/-! ## The callee's side -/

/-- what the objects of a context own -/
def OwnSet (C : Ctx) : Cells := fun b x => ∃ id o, C.ρ id = some o ∧ o.own = true ∧ ∃ j, j < (C.μ id).n ∧ b = (C.μ id).b ∧ x = (C.μ id).o + j

/-- the objects of a call by their numbers -/
def posLook (os : List Obj) : Look := fun id => if id.1 = 0 then os[id.2]? else none

def CallOK (P : Program) (f : FuncId) (args : List AVal) (os : List Obj) (v : AVal) (os' : List Obj) : Prop :=
  ∀ (C : Ctx) (vals : Array Value), C.ρ = posLook os → Inv ⟨C.w, C.F, OwnSet C⟩ C → RepL C args vals.toList →
    Calls P f vals C.w fun e w' => ∃ val C', e = .returned val ∧ C'.w = w' ∧ C'.ρ = posLook os' ∧ Inv ⟨C.w, C.F, OwnSet C⟩ C' ∧ RepA C' v val ∧
      Ext (fun i => i) (fun id => id.1 = 0 ∧ id.2 < os.length) C C'

def SoundK (P : Program) (K : Orc) : Prop := ∀ f args os v os', K f args os = some (v, os') → CallOK P f args os v os'

theorem ren_leaf (f : Id → Id) (a : AVal) : (a.ren f).leaf = a.leaf := by cases a <;> rfl

theorem renL_get (f : Id → Id) : ∀ (l : List AVal) (j : Nat), (AVal.renL f l)[j]? = (l[j]?).map (AVal.ren f)
  | [], j => by simp [AVal.renL]
  | a :: r, 0 => by simp [AVal.renL]
  | a :: r, j + 1 => by simp [AVal.renL, renL_get f r j]

theorem idsL_get : ∀ {l : List AVal} {j : Nat} {a : AVal}, l[j]? = some a → ∀ i ∈ a.ids, i ∈ AVal.idsL l
  | [], j, a, h, i, hi => by simp at h
  | b :: r, 0, a, h, i, hi => by simp at h; subst h; simp [AVal.idsL, hi]
  | b :: r, j + 1, a, h, i, hi => by simp at h; simp [AVal.idsL, idsL_get h i hi]

theorem own_ren (f : Id → Id) (o : Obj) : (o.ren f).own = o.own := by cases o <;> rfl

/-- an object under new names -/
theorem ObjOK.ren {C C' : Ctx} {f : Id → Id} {D : Id → Prop} {L : Loc} {o : Obj} (h : ObjOK C L o) (he : Ext f D C C') (hw : C'.w = C.w) (hF : C'.F = C.F) (hi : ∀ i ∈ o.ids, D i) : ObjOK C' L (o.ren f) := by
  have hown : OwnOK C L → OwnOK C' L := fun ho j hj => by rw [hw, hF]; exact ho j hj
  cases o with
  | box cs =>
    refine ⟨by rw [(renL_props f cs).1]; exact h.1, by rw [(renL_props f cs).2]; exact h.2.1, hown h.2.2.1, fun j a ha => ?_⟩
    rw [renL_get] at ha
    obtain ⟨b, hb, rfl⟩ := map_pair ha
    obtain ⟨v, hv, hr⟩ := h.2.2.2 j b hb
    exact ⟨v, by rw [hw]; exact hv, RepA.ext he b v (fun i hib => hi i (idsL_get hb i hib)) hr⟩
  | rarr ver es =>
    refine ⟨by rw [(renL_props f es).1]; exact h.1, by rw [(renL_props f es).2]; exact h.2.1, hown h.2.2.1, fun j a ha => ?_⟩
    rw [renL_get] at ha
    obtain ⟨b, hb, rfl⟩ := map_pair ha
    obtain ⟨v, hv, hr⟩ := h.2.2.2 j b hb
    exact ⟨v, by rw [hw]; exact hv, RepA.ext he b v (fun i hib => hi i (idsL_get hb i hib)) hr⟩
  | arr sz ver fz es =>
    obtain ⟨h1, h2, h3, h4⟩ := h
    refine ⟨h1, h2, fun e => ⟨hown (h3 e).1, ?_⟩, fun e => by rw [hF]; exact h4 e⟩
    rw [hw, hF]
    exact (h3 e).2

section
variable {P : Program} {o : Oper} {a : Act} {B : Base} {C : Ctx} {g : Nat → AVal}

/-- the context in which the callee begins -/
def calleeCtx (C1 : Ctx) (order : List Id) (os : List Obj) : Ctx :=
  { w := C1.w, F := C1.F, μ := fun id => C1.μ (order[id.2]?.getD (0, 0)), ρ := posLook os }

theorem callee_inv {C1 : Ctx} (hI : Inv B C1) {order : List Id} {os : List Obj} (hn : order.Nodup) (hcl : ∀ i ∈ order, ∃ o, C1.ρ i = some o ∧ ∀ j ∈ o.ids, j ∈ order)
    (hos : os.length = order.length) (hget : ∀ (j : Nat) (i : Id), order[j]? = some i → os[j]? = C1.ρ i) :
    Ext (toPos order) (fun i => i ∈ order) C1 (calleeCtx C1 order (os.map (Obj.ren (toPos order)))) ∧
    Inv ⟨C1.w, C1.F, OwnSet (calleeCtx C1 order (os.map (Obj.ren (toPos order))))⟩ (calleeCtx C1 order (os.map (Obj.ren (toPos order)))) := by
  have look : ∀ i, i ∈ order → (calleeCtx C1 order (os.map (Obj.ren (toPos order)))).ρ (toPos order i) = (C1.ρ i).map (Obj.ren (toPos order)) := by
    intro i hi
    have := hget _ _ (indexIn_get hi)
    simp [calleeCtx, posLook, toPos, this]
  have locOf : ∀ i, i ∈ order → (calleeCtx C1 order (os.map (Obj.ren (toPos order)))).μ (toPos order i) = C1.μ i := by
    intro i hi
    simp [calleeCtx, toPos, indexIn_get hi]
  have back : ∀ id o, (calleeCtx C1 order (os.map (Obj.ren (toPos order)))).ρ id = some o → ∃ i o1, i ∈ order ∧ order[id.2]? = some i ∧ id = toPos order i ∧ C1.ρ i = some o1 ∧ o = o1.ren (toPos order) := by
    intro id o ho
    simp only [calleeCtx, posLook] at ho
    split at ho
    · rename_i h0
      rw [List.getElem?_map] at ho
      obtain ⟨o1, h1, h2⟩ := map_pair ho
      have hlt := (List.getElem?_eq_some_iff.1 h1).1
      have hi : order[id.2]? = some order[id.2] := List.getElem?_eq_getElem (by omega)
      refine ⟨order[id.2], o1, List.getElem_mem _, hi, ?_, ?_, h2.symm⟩
      · rw [toPos, indexIn_of hn hi, ← h0]
      · rw [← hget _ _ hi, h1]
    · cases ho
  have hext : Ext (toPos order) (fun i => i ∈ order) C1 (calleeCtx C1 order (os.map (Obj.ren (toPos order)))) := by
    refine ⟨fun _ _ _ h => h, fun i L hi hb => ?_, fun i A hi ha => ?_⟩
    · unfold boxAt at hb ⊢
      rw [look i hi, locOf i hi]
      cases e : C1.ρ i with
      | none => simp [e] at hb
      | some ob => cases ob <;> simp [e] at hb; simpa [Obj.ren] using hb
    · refine ⟨A, ?_, Nat.le_refl _, fun _ => ⟨rfl, rfl, Nat.le_refl _⟩⟩
      unfold arrAt at ha ⊢
      rw [look i hi, locOf i hi]
      cases e : C1.ρ i with
      | none => simp [e] at ha
      | some ob =>
        cases ob with
        | box cs => simp [e] at ha
        | arr sz ver fz es => simpa [e, Obj.ren] using ha
        | rarr ver es => simpa [e, Obj.ren, (renL_props _ es).1] using ha
  refine ⟨hext, ?_⟩
  refine ⟨fun id o ho => ?_, fun i1 i2 o1 o2 ho1 ho2 hw1 hw2 hne j1 j2 hj1 hj2 => ?_, fun id o ho hw j hj => .inl ⟨id, o, ho, hw, j, hj, rfl, rfl⟩, Kept.refl _ _, fun b o v hv => hI.Fw b o v hv, fun _ _ _ h => h, fun _ _ _ h => .inl h⟩
  · obtain ⟨i, o1, hi, _, rfl, h1, rfl⟩ := back id o ho
    rw [locOf i hi]
    obtain ⟨o', h2, h3⟩ := hcl i hi
    rw [h1] at h2
    cases h2
    exact (hI.objs i o1 h1).ren hext rfl rfl h3
  · obtain ⟨a1, b1, c1, _, rfl, d1, rfl⟩ := back i1 o1 ho1
    obtain ⟨a2, b2, c2, _, rfl, d2, rfl⟩ := back i2 o2 ho2
    rw [locOf a1 c1] at hj1 ⊢
    rw [locOf a2 c2] at hj2 ⊢
    rw [own_ren] at hw1 hw2
    exact hI.disj a1 a2 b1 b2 d1 d2 hw1 hw2 (fun e => hne (by rw [e])) j1 j2 hj1 hj2

/-- the arguments, as they are handed over -/
theorem argsE_rep {C1 : Ctx} (hg : Grow C C1) : ∀ {l : List (AVal × Bool)} {vs : List AVal} {fs : List Id} {us : List Value},
    (∀ id ∈ fs, ∀ sz ver fz es, C.ρ id = some (.arr sz ver fz es) → RowD C1.F es (C.μ id).b (C.μ id).o sz) → opE.argsE C.ρ l = some (vs, fs) → RepL C (l.map (·.1)) us → RepL C1 vs us
  | [], vs, fs, us, hfz, h, hr => by
    simp [opE.argsE] at h
    rw [h.1]
    simpa [RepL] using hr
  | (x, byRef) :: l, vs, fs, us, hfz, h, hr => by
    simp only [opE.argsE] at h
    cases e : opE.argsE C.ρ l with
    | none => simp [e] at h
    | some p =>
      simp only [e] at h
      simp only [List.map_cons, RepL] at hr
      obtain ⟨c, cs, rfl, h2, h3⟩ := hr
      split at h
      · simp only [Option.some.injEq, Prod.mk.injEq] at h
        obtain ⟨rfl, rfl⟩ := h
        exact ⟨c, cs, rfl, h2.grow hg, argsE_rep hg hfz e h3⟩
      · cases e1 : dec C.ρ x with
        | none => simp [e1] at h
        | some q =>
          simp only [e1, Option.some.injEq, Prod.mk.injEq] at h
          obtain ⟨rfl, rfl⟩ := h
          refine ⟨c, cs, rfl, ?_, argsE_rep hg (fun id hid => hfz id (by simp [hid])) e h3⟩
          simp only [RepA]
          exact dec_rep hg.F (fun id hid => hfz id (by simp [hid])) e1 h2

theorem scal_rep {C C' : Ctx} {v : AVal} {val : Value} (h : scalV v = true) (hr : RepA C v val) : RepA C' v val := by
  have one : ∀ d v, scalD d = true → RepV C.F d v → RepV C'.F d v := by
    intro d v hd hv
    refine ⟨?_, hv.2⟩
    have := hv.1
    cases d <;> simp [scalD] at hd <;> simpa only [RepD] using this
  cases v with
  | dat d => simp only [RepA] at hr ⊢; exact one d val h hr
  | tup l =>
    simp only [RepA] at hr ⊢
    obtain ⟨cs, h1, h2⟩ := hr
    refine ⟨cs, h1, ?_⟩
    simp only [scalV] at h
    generalize cs.toList = us at h2
    clear h1
    induction l generalizing us with
    | nil => simpa only [RepL] using h2
    | cons x r ih =>
      simp only [RepL] at h2 ⊢
      obtain ⟨c, cs', e1, e2, e3⟩ := h2
      simp only [List.all_cons, Bool.and_eq_true] at h
      refine ⟨c, cs', e1, ?_, ih h.2 cs' e3⟩
      cases x with
      | dat d => simp only [RepA] at e2 ⊢; exact one d c h.1 e2
      | _ => simp at h
  | _ => simp [scalV] at h


end

mutual
theorem RepA.live {C : Ctx} : ∀ (a : AVal) (v : Value), RepA C a v → ∀ i ∈ a.ids, ∃ ob, C.ρ i = some ob
  | .dat d, v, h, i, hi => by simp [AVal.ids] at hi
  | .nils, v, h, i, hi => by simp [AVal.ids] at hi
  | .emp t, v, h, i, hi => by simp [AVal.ids] at hi
  | .nilp, v, h, i, hi => by simp [AVal.ids] at hi
  | .undef, v, h, i, hi => by simp [AVal.ids] at hi
  | .fp l, v, h, i, hi => by simp [AVal.ids] at hi
  | .ref id off, v, h, i, hi => by
    simp only [AVal.ids, List.mem_singleton] at hi
    subst hi
    simp only [RepA] at h
    obtain ⟨L, h1, _⟩ := h
    unfold boxAt at h1
    split at h1
    · rename_i e; exact ⟨_, e⟩
    · cases h1
  | .eref id ver j off, v, h, i, hi => by
    simp only [AVal.ids, List.mem_singleton] at hi
    subst hi
    simp only [RepA] at h
    obtain ⟨A, p, h1, _⟩ := h
    unfold arrAt at h1
    split at h1
    · rename_i e; exact ⟨_, e⟩
    · rename_i e; exact ⟨_, e⟩
    · cases h1
  | .rsl id ver sz off len, v, h, i, hi => by
    simp only [AVal.ids, List.mem_singleton] at hi
    subst hi
    simp only [RepA] at h
    obtain ⟨A, p, cap, h1, _⟩ := h
    unfold arrAt at h1
    split at h1
    · rename_i e; exact ⟨_, e⟩
    · rename_i e; exact ⟨_, e⟩
    · cases h1
  | .lits l, v, h, i, hi => by
    simp only [RepA] at h
    obtain ⟨b, o, cap, cs, _, _, h3, _⟩ := h
    exact RepL.live l cs h3 i (by simpa [AVal.ids] using hi)
  | .agg l, v, h, i, hi => by
    simp only [RepA] at h
    obtain ⟨cs, _, h3, _⟩ := h
    exact RepL.live l _ h3 i (by simpa [AVal.ids] using hi)
  | .tup l, v, h, i, hi => by
    simp only [RepA] at h
    obtain ⟨cs, _, h3⟩ := h
    exact RepL.live l _ h3 i (by simpa [AVal.ids] using hi)
  | .fn f l, v, h, i, hi => by
    simp only [RepA] at h
    obtain ⟨cs, _, h3⟩ := h
    exact RepL.live l _ h3 i (by simpa [AVal.ids] using hi)
theorem RepL.live {C : Ctx} : ∀ (l : List AVal) (cs : List Value), RepL C l cs → ∀ i ∈ AVal.idsL l, ∃ ob, C.ρ i = some ob
  | [], cs, h, i, hi => by simp [AVal.idsL] at hi
  | a :: r, cs, h, i, hi => by
    simp only [RepL] at h
    obtain ⟨c, cs', _, h2, h3⟩ := h
    simp only [AVal.idsL, List.mem_append] at hi
    rcases hi with hi | hi
    · exact RepA.live a c h2 i hi
    · exact RepL.live r cs' h3 i hi
end

theorem cells_live {C : Ctx} {L : Loc} : ∀ (l : List AVal) (k : Nat), (∀ (j : Nat) (a : AVal), l[j]? = some a → ∃ v, C.w.cell? ⟨L.b, L.o + (k + j), none⟩ = some v ∧ RepA C a v) → ∀ i ∈ AVal.idsL l, ∃ ob, C.ρ i = some ob
  | [], k, h, i, hi => by simp [AVal.idsL] at hi
  | a :: r, k, h, i, hi => by
    simp only [AVal.idsL, List.mem_append] at hi
    rcases hi with hi | hi
    · obtain ⟨v, _, hr⟩ := h 0 a rfl
      exact RepA.live a v hr i hi
    · exact cells_live r (k + 1) (fun j b hb => by
        obtain ⟨v, h1, h2⟩ := h (j + 1) b (by simpa using hb)
        exact ⟨v, by rwa [show k + 1 + j = k + (j + 1) by omega], h2⟩) i hi

theorem ObjOK.live {C : Ctx} {L : Loc} {ob : Obj} (h : ObjOK C L ob) : ∀ i ∈ ob.ids, ∃ o', C.ρ i = some o' := by
  cases ob with
  | box cs => exact cells_live cs 0 (fun j a ha => by have := h.2.2.2 j a ha; simpa using this)
  | rarr ver es => exact cells_live es 0 (fun j a ha => by have := h.2.2.2 j a ha; simpa using this)
  | arr sz ver fz es => intro i hi; simp [Obj.ids] at hi

theorem updL_zip : ∀ {ids : List Id} {os : List Obj}, ids.Nodup → ids.length = os.length → ∀ (ρ : Look) (i : Id), updL ρ (ids.zip os) i = if i ∈ ids then os[indexIn ids i]? else ρ i
  | [], os, _, _, ρ, i => by simp [updL]
  | id :: r, [], _, hl, ρ, i => by simp at hl
  | id :: r, o :: os, hn, hl, ρ, i => by
    simp only [List.zip_cons_cons, updL]
    rw [List.nodup_cons] at hn
    rw [updL_zip hn.2 (by simpa using hl)]
    by_cases e : id = i
    · subst e
      simp [hn.1, indexIn]
    · simp only [List.mem_cons, indexIn, e, if_false]
      by_cases hi : i ∈ r
      · simp [hi]
      · have e' : ¬ i = id := fun x => e x.symm
        simp [hi, e']

section
variable {P : Program} {o : Oper} {a : Act} {B : Base} {C : Ctx} {g : Nat → AVal}

theorem ids_spec {order : List Id} {site n : Nat} (hn : order.Nodup) (hm : order.length ≤ n) (hfresh : ∀ j, j < n - order.length → (site + 1, j) ∉ order) :
    ((List.range n).map fun j => fromPos order site (0, j)).Nodup ∧ (∀ j, j < n → ((List.range n).map fun j => fromPos order site (0, j))[j]? = some (fromPos order site (0, j))) ∧
    (∀ i ∈ order, i ∈ ((List.range n).map fun j => fromPos order site (0, j))) ∧
    (∀ i ∈ ((List.range n).map fun j => fromPos order site (0, j)), i ∈ order ∨ ∃ j, j < n - order.length ∧ i = (site + 1, j)) := by
  have val : ∀ j, fromPos order site (0, j) = if h : j < order.length then order[j] else (site + 1, j - order.length) := by
    intro j
    unfold fromPos
    by_cases h : j < order.length
    · simp [h]
    · simp [h, List.getElem?_eq_none (Nat.le_of_not_lt h)]
  refine ⟨?_, fun j hj => by simp [hj], fun i hi => ?_, fun i hi => ?_⟩
  · rw [List.Nodup, List.pairwise_map]
    refine List.Pairwise.imp_of_mem ?_ (List.pairwise_lt_range (n := n))
    intro x y hx hy hlt
    rw [val, val]
    have hy' : y < n := by simpa using hy
    by_cases h1 : x < order.length
    · by_cases h2 : y < order.length
      · rw [dif_pos h1, dif_pos h2]
        intro e
        have := (List.getElem_inj hn).1 e
        omega
      · rw [dif_pos h1, dif_neg h2]
        intro e
        exact hfresh (y - order.length) (by omega) (e ▸ List.getElem_mem h1)
    · have h2 : ¬ y < order.length := by omega
      rw [dif_neg h1, dif_neg h2]
      intro e
      simp only [Prod.mk.injEq] at e
      omega
  · rw [List.mem_map]
    refine ⟨indexIn order i, by have := indexIn_lt hi; simp; omega, ?_⟩
    have := indexIn_get hi
    simp [fromPos, this]
  · rw [List.mem_map] at hi
    obtain ⟨j, hj, rfl⟩ := hi
    rw [val]
    simp at hj
    split
    · exact .inl (List.getElem_mem _)
    · exact .inr ⟨j - order.length, by omega, rfl⟩

/-- the context of the caller behind the call -/
def afterCtx (C1 C' : Ctx) (ids : List Id) (os : List Obj) : Ctx :=
  { w := C'.w, F := C'.F, μ := fun id => if id ∈ ids then C'.μ (0, indexIn ids id) else C1.μ id, ρ := fun id => if id ∈ ids then os[indexIn ids id]? else C1.ρ id }

theorem after_inv {C1 Ce C' : Ctx} (hI : Inv B C1) {order : List Id} {os os' : List Obj} {site : Nat} (hn : order.Nodup) (hcl : ∀ i ∈ order, ∃ o, C1.ρ i = some o ∧ ∀ j ∈ o.ids, j ∈ order)
    (hlen : os.length = order.length) (hCe : Ce = calleeCtx C1 order (os.map (Obj.ren (toPos order)))) (hext : Ext (toPos order) (fun i => i ∈ order) C1 Ce)
    (hget : ∀ (j : Nat) (i : Id), order[j]? = some i → os[j]? = C1.ρ i)
    (hm : order.length ≤ os'.length) (hfresh : ∀ j, j < os'.length - order.length → C1.ρ (site + 1, j) = none)
    (hρ' : C'.ρ = posLook os') (hI' : Inv ⟨Ce.w, Ce.F, OwnSet Ce⟩ C') (hx : Ext (fun i => i) (fun id => id.1 = 0 ∧ id.2 < os.length) Ce C') :
    let ids := (List.range os'.length).map fun j => fromPos order site (0, j)
    let C2 := afterCtx C1 C' ids (os'.map (Obj.ren (fromPos order site)))
    Inv B C2 ∧ Grow C1 C2 ∧ Ext (fromPos order site) (fun id => id.1 = 0 ∧ id.2 < os'.length) C' C2 := by
  intro ids C2
  have hfo : ∀ j, j < os'.length - order.length → (site + 1, j) ∉ order := by
    intro j hj hmem
    obtain ⟨o, h1, _⟩ := hcl _ hmem
    rw [hfresh j hj] at h1; cases h1
  obtain ⟨n1, n2, n3, n4⟩ := ids_spec (site := site) (n := os'.length) hn hm hfo
  have hidx : ∀ j, j < os'.length → indexIn ids (fromPos order site (0, j)) = j := fun j hj => indexIn_of n1 (n2 j hj)
  have hmem : ∀ j, j < os'.length → fromPos order site (0, j) ∈ ids := fun j hj => List.mem_of_getElem? (n2 j hj)
  have hilt : ∀ i, i ∈ ids → indexIn ids i < os'.length := fun i hi => by have := indexIn_lt hi; simpa [ids] using this
  have hfrom : ∀ i, i ∈ ids → fromPos order site (0, indexIn ids i) = i := by
    intro i hi
    have h1 := indexIn_get hi
    have h2 := n2 _ (hilt i hi)
    rw [h1] at h2
    exact (Option.some.inj h2).symm
  have look2 : ∀ j, j < os'.length → C2.ρ (fromPos order site (0, j)) = (os'[j]?).map (Obj.ren (fromPos order site)) := by
    intro j hj
    simp only [C2, afterCtx, hmem j hj, if_true, hidx j hj, List.getElem?_map]
  have loc2 : ∀ j, j < os'.length → C2.μ (fromPos order site (0, j)) = C'.μ (0, j) := by
    intro j hj
    simp only [C2, afterCtx, hmem j hj, if_true, hidx j hj]
  have look' : ∀ id ob, C'.ρ id = some ob → id = (0, id.2) ∧ id.2 < os'.length ∧ os'[id.2]? = some ob := by
    intro id ob hob
    rw [hρ'] at hob
    simp only [posLook] at hob
    split at hob
    · rename_i h0
      exact ⟨by rw [← h0], (List.getElem?_eq_some_iff.1 hob).1, hob⟩
    · cases hob
  have hextB : Ext (fromPos order site) (fun id => id.1 = 0 ∧ id.2 < os'.length) C' C2 := by
    refine ⟨fun _ _ _ h => h, fun i L hi hb => ?_, fun i A hi ha => ?_⟩
    · have ei : i = (0, i.2) := by rw [← hi.1]
      unfold boxAt at hb ⊢
      rw [ei, look2 _ hi.2, loc2 _ hi.2]
      rw [ei, hρ'] at hb
      simp only [posLook, if_true] at hb
      cases e : os'[i.2]? with
      | none => rw [e] at hb; simp at hb
      | some ob => rw [e] at hb; cases ob <;> simp at hb; simpa [Obj.ren] using hb
    · have ei : i = (0, i.2) := by rw [← hi.1]
      refine ⟨A, ?_, Nat.le_refl _, fun _ => ⟨rfl, rfl, Nat.le_refl _⟩⟩
      unfold arrAt at ha ⊢
      rw [ei, look2 _ hi.2, loc2 _ hi.2]
      rw [ei, hρ'] at ha
      simp only [posLook, if_true] at ha
      cases e : os'[i.2]? with
      | none => rw [e] at ha; simp at ha
      | some ob =>
        rw [e] at ha
        cases ob with
        | box cs => simp at ha
        | arr sz ver fz es => simpa [Obj.ren] using ha
        | rarr ver es => simpa [Obj.ren, (renL_props _ es).1] using ha
  have other : ∀ i, i ∉ ids → C2.ρ i = C1.ρ i ∧ C2.μ i = C1.μ i := by
    intro i hi
    simp only [C2, afterCtx, hi, if_false, and_self]
  have hback : ∀ i, i ∈ order → (toPos order i).1 = 0 ∧ (toPos order i).2 < os'.length ∧ (toPos order i).2 < os.length ∧ fromPos order site (toPos order i) = i := by
    intro i hi
    have := indexIn_lt hi
    refine ⟨rfl, by simp only [toPos]; omega, by simp only [toPos]; omega, ?_⟩
    simp [fromPos, toPos, indexIn_get hi]
  have notOrder : ∀ i, i ∈ ids → i ∉ order → C1.ρ i = none := by
    intro i hi ho
    rcases n4 i hi with h | ⟨j, hj, rfl⟩
    · exact absurd h ho
    · exact hfresh j hj
  have hgrow : Grow C1 C2 := by
    refine ⟨fun b x v hv => ?_, fun i L _ hb => ?_, fun i A _ ha => ?_⟩
    · have h1 : Ce.F b x = some v := by subst hCe; exact hv
      exact hI'.Fsub _ _ _ h1
    · by_cases hi : i ∈ ids
      · by_cases ho : i ∈ order
        · obtain ⟨b1, b2, b3, b4⟩ := hback i ho
          have h1 := hext.box i L ho hb
          have h2 := hx.box _ L ⟨b1, b3⟩ h1
          have h3 := hextB.box _ L ⟨b1, b2⟩ h2
          simpa [b4] using h3
        · simp [boxAt, notOrder i hi ho] at hb
      · obtain ⟨q1, q2⟩ := other i hi
        simpa [boxAt, q1, q2] using hb
    · by_cases hi : i ∈ ids
      · by_cases ho : i ∈ order
        · obtain ⟨b1, b2, b3, b4⟩ := hback i ho
          obtain ⟨A1, h1, v1, e1⟩ := hext.arr i A ho ha
          obtain ⟨A2, h2, v2, e2⟩ := hx.arr _ A1 ⟨b1, b3⟩ h1
          obtain ⟨A3, h3, v3, e3⟩ := hextB.arr _ A2 ⟨b1, b2⟩ h2
          refine ⟨A3, by simpa [b4] using h3, by omega, fun e => ?_⟩
          obtain ⟨x1, x2, x3⟩ := e1 (by omega)
          obtain ⟨y1, y2, y3⟩ := e2 (by omega)
          obtain ⟨z1, z2, z3⟩ := e3 (by omega)
          exact ⟨by rw [z1, y1, x1], by rw [z2, y2, x2], by omega⟩
        · simp [arrAt, notOrder i hi ho] at ha
      · obtain ⟨q1, q2⟩ := other i hi
        exact ⟨A, by simpa [arrAt, q1, q2] using ha, Nat.le_refl _, fun _ => ⟨rfl, rfl, Nat.le_refl _⟩⟩
  have hCew : Ce.w = C1.w := by subst hCe; rfl
  have hCeF : Ce.F = C1.F := by subst hCe; rfl
  have hkept : Kept C1.w C2.w (OwnSet Ce) := by have := hI'.kept; simp only at this; rw [hCew] at this; exact this
  -- what the callee owned at its start lies in the caller's objects that were handed over
  have hown0 : ∀ b x, OwnSet Ce b x → ∃ i ob, i ∈ order ∧ C1.ρ i = some ob ∧ ob.own = true ∧ ∃ j, j < (C1.μ i).n ∧ b = (C1.μ i).b ∧ x = (C1.μ i).o + j := by
    rintro b x ⟨id, ob, h1, h2, j, hj, rfl, rfl⟩
    subst hCe
    simp only [calleeCtx, posLook] at h1
    split at h1
    · rename_i h0
      rw [List.getElem?_map] at h1
      obtain ⟨o1, g1, g2⟩ := map_pair h1
      have hlt := (List.getElem?_eq_some_iff.1 g1).1
      have hi : order[id.2]? = some order[id.2] := List.getElem?_eq_getElem (by omega)
      have hμ : (calleeCtx C1 order (os.map (Obj.ren (toPos order)))).μ id = C1.μ order[id.2] := by simp [calleeCtx, hi]
      rw [hμ] at hj ⊢
      refine ⟨order[id.2], o1, List.getElem_mem _, by rw [← hget _ _ hi, g1], by rw [← g2, own_ren] at h2; exact h2, j, hj, rfl, rfl⟩
    · cases h1
  have ownB : ∀ b x, OwnSet Ce b x → B.O b x ∨ B.w.heap.size ≤ b := by
    intro b x h
    obtain ⟨i, ob, _, h2, h3, j, hj, rfl, rfl⟩ := hown0 b x h
    exact hI.own i ob h2 h3 j hj
  have hFnew : ∀ b x v, C2.F b x = some v → C1.F b x = some v ∨ C1.w.heap.size ≤ b ∨ OwnSet Ce b x := by
    intro b x v hv
    rcases hI'.Fnew b x v hv with h | h | h
    · rw [hCeF] at h; exact .inl h
    · exact .inr (.inr h)
    · rw [hCew] at h; exact .inr (.inl h)
  have notOwn : ∀ i ob, i ∉ ids → C1.ρ i = some ob → ob.own = true → ∀ j, j < (C1.μ i).n → ¬ OwnSet Ce (C1.μ i).b ((C1.μ i).o + j) := by
    intro i ob hi h1 h2 j hj hcon
    obtain ⟨i', ob', h3, h4, h5, j', hj', e1, e2⟩ := hown0 _ _ hcon
    exact hI.disj i i' ob ob' h1 h4 h2 h5 (fun e => hi (by rw [e]; exact n3 _ h3)) j j' hj hj' ⟨e1, e2⟩
  -- an object of the callee's, under the caller's name
  have got : ∀ i ob, i ∈ ids → C2.ρ i = some ob → ∃ ob', C'.ρ (0, indexIn ids i) = some ob' ∧ ob = ob'.ren (fromPos order site) ∧ C2.μ i = C'.μ (0, indexIn ids i) := by
    intro i ob hi hob
    have h1 := look2 _ (hilt i hi)
    have h2 := loc2 _ (hilt i hi)
    rw [hfrom i hi] at h1 h2
    rw [hob] at h1
    obtain ⟨ob', h3, h4⟩ := map_pair h1.symm
    refine ⟨ob', ?_, h4.symm, h2⟩
    rw [hρ']
    simpa [posLook] using h3
  have ownLoc : ∀ i ob, i ∈ ids → C2.ρ i = some ob → ob.own = true → ∀ j, j < (C2.μ i).n → OwnSet Ce (C2.μ i).b ((C2.μ i).o + j) ∨ C1.w.heap.size ≤ (C2.μ i).b := by
    intro i ob hi hob hw j hj
    obtain ⟨ob', h1, h2, h3⟩ := got i ob hi hob
    rw [h3] at hj ⊢
    rw [h2, own_ren] at hw
    have := hI'.own _ ob' h1 hw j hj
    simp only [hCew] at this
    exact this
  refine ⟨⟨fun i ob hob => ?_, fun i1 i2 o1 o2 ho1 ho2 hw1 hw2 hne j1 j2 hj1 hj2 => ?_, fun i ob hob hw j hj => ?_, ?_, fun b x v hv => hI'.Fw b x v hv, fun b x v hv => hgrow.F _ _ _ (hI.Fsub _ _ _ hv), fun b x v hv => ?_⟩, hgrow, hextB⟩
  · by_cases hi : i ∈ ids
    · obtain ⟨ob', h1, h2, h3⟩ := got i ob hi hob
      rw [h2, h3]
      exact (hI'.objs _ ob' h1).ren hextB rfl rfl (fun i' hi' => by
        obtain ⟨o'', h5⟩ := (hI'.objs _ ob' h1).live i' hi'
        obtain ⟨e1, e2, _⟩ := look' _ _ h5
        exact ⟨by rw [e1], e2⟩)
    · obtain ⟨q1, q2⟩ := other i hi
      rw [q1] at hob
      rw [q2]
      exact (hI.objs i ob hob).keep hgrow hkept hFnew (fun hw => notOwn i ob hi hob hw)
  · by_cases h1 : i1 ∈ ids
    · by_cases h2 : i2 ∈ ids
      · obtain ⟨a1, b1, c1, d1⟩ := got i1 o1 h1 ho1
        obtain ⟨a2, b2, c2, d2⟩ := got i2 o2 h2 ho2
        rw [d1] at hj1 ⊢
        rw [d2] at hj2 ⊢
        rw [c1, own_ren] at hw1
        rw [c2, own_ren] at hw2
        refine hI'.disj _ _ a1 a2 b1 b2 hw1 hw2 (fun e => hne ?_) j1 j2 hj1 hj2
        have := congrArg (fromPos order site) e
        rwa [hfrom i1 h1, hfrom i2 h2] at this
      · obtain ⟨q1, q2⟩ := other i2 h2
        rw [q1] at ho2
        rw [q2] at hj2 ⊢
        intro ⟨e1, e2⟩
        rcases ownLoc i1 o1 h1 ho1 hw1 j1 hj1 with h | h
        · rw [e1, e2] at h
          exact notOwn i2 o2 h2 ho2 hw2 j2 hj2 h
        · obtain ⟨⟨v, hv⟩, _⟩ := (hI.objs i2 o2 ho2).ownOK hw2 j2 hj2
          have := World.block_lt_of_cell? _ _ hv
          simp only at this
          omega
    · obtain ⟨q1, q2⟩ := other i1 h1
      rw [q1] at ho1
      rw [q2] at hj1 ⊢
      by_cases h2 : i2 ∈ ids
      · intro ⟨e1, e2⟩
        rcases ownLoc i2 o2 h2 ho2 hw2 j2 hj2 with h | h
        · rw [← e1, ← e2] at h
          exact notOwn i1 o1 h1 ho1 hw1 j1 hj1 h
        · obtain ⟨⟨v, hv⟩, _⟩ := (hI.objs i1 o1 ho1).ownOK hw1 j1 hj1
          have := World.block_lt_of_cell? _ _ hv
          simp only at this
          omega
      · obtain ⟨q3, q4⟩ := other i2 h2
        rw [q3] at ho2
        rw [q4] at hj2 ⊢
        exact hI.disj i1 i2 o1 o2 ho1 ho2 hw1 hw2 hne j1 j2 hj1 hj2
  · by_cases hi : i ∈ ids
    · rcases ownLoc i ob hi hob hw j hj with h | h
      · exact ownB _ _ h
      · exact .inr (Nat.le_trans hI.kept.size h)
    · obtain ⟨q1, q2⟩ := other i hi
      rw [q1] at hob
      rw [q2] at hj ⊢
      exact hI.own i ob hob hw j hj
  · refine hI.kept.trans hkept (fun _ _ _ h => h) fun b x hb h => ?_
    rcases ownB b x h with h | h
    · exact h
    · omega
  · rcases hFnew b x v hv with h | h | h
    · exact hI.Fnew _ _ _ h
    · exact .inr (.inr (Nat.le_trans hI.kept.size h))
    · exact .inr (ownB _ _ h)

theorem map_fst_zipIdx (axs : List AX) (bs : Nat → Bool) : ((axs.zipIdx.map fun p => (p.1, bs p.2)).map fun p => p.1) = axs := by
  rw [List.map_map]
  have : ((fun p : AX × Bool => p.1) ∘ fun p : AX × Nat => (p.1, bs p.2)) = Prod.fst := rfl
  rw [this, List.zipIdx_map_fst]

theorem op_call {K : Orc} (hS : SoundK P K) (hI : Inv B C) (hE : RepE C g a) {c : Call} {f : FuncId} {axs : List AX} {args : List (AX × Bool)} {sc : Bool} {site : Nat} {v : AVal} {upd : List (Id × Obj)} (ho : o.op = .call c) (hc : c.callee = .value (.func f))
    (hargs : cXs c.args = some axs) (hfst : args.map (·.1) = axs) (hen : enterable P f = true) (h : opE K site (.call f args sc) g C.ρ = some (v, upd)) : Does P o a C.w (Owes B C v upd) := by
  have hrun : (execOp a.eval o).run P C.w = .ok (.enter f (c.args.map a.eval)) C.w := by
    unfold enterable at hen
    cases hfn : P.funcs[f]? with
    | none => simp [hfn] at hen
    | some fn =>
      rw [hfn] at hen
      simp only [bne_iff_ne, Bool.and_eq_true, ne_eq] at hen
      have hb : fn.body.isNone = false := by cases hb : fn.body <;> simp_all
      have hname : (fn.name == "runtime.NumGoroutine") = false := by simpa using hen.1
      simp only [execOp, ho, resolve, hc, Act.eval, Sem.run_bind, Deferred.ofValue, Sem.run_pure, Result.andThen_ok, invoke, callFunc, run_program, hfn, hname, hb, Bool.false_eq_true, if_false]
      simp
  have hrl : RepL C (axs.map (evX g)) (c.args.map a.eval).toList := by
    have := cXs_rep (C := C) hE hargs
    simpa using this
  have hrl' : RepL C ((args.map fun p => (evX g p.1, p.2)).map (·.1)) (c.args.map a.eval).toList := by
    have e : ((args.map fun p => (evX g p.1, p.2)).map (·.1)) = axs.map (evX g) := by
      rw [← hfst, List.map_map, List.map_map]; rfl
    rw [e]; exact hrl
  refine .inr (.inr ⟨f, _, hrun, ?_⟩)
  simp only [opE] at h
  split at h
  · cases h
  · rename_i vs fs hvs
    obtain ⟨C1, k1, k2, k3, k4, k5, k6⟩ := hI.freeze fs
    have hvr := argsE_rep k5 k6 hvs hrl'
    split at h
    · cases h
    · rename_i order hcol
      obtain ⟨r1, r2, r3, r4, _⟩ := collect_spec C.ρ 64 _ [] order hcol (by simp) (by simp)
      split at h
      · cases h
      · rename_i os hos
        obtain ⟨g1, g2⟩ := gather_spec hos
        split at h
        · cases h
        · rename_i hfo
          have hfo' : ∀ i ∈ order, i ∉ fs := by
            intro i hi hf
            apply hfo
            rw [List.any_eq_true]
            exact ⟨i, hf, by simpa using hi⟩
          have hρ1 : ∀ i ∈ order, C1.ρ i = C.ρ i := fun i hi => by rw [k3, updL_frz_other fs (hfo' i hi)]
          have hcl1 : ∀ i ∈ order, ∃ o, C1.ρ i = some o ∧ ∀ j ∈ o.ids, j ∈ order := fun i hi => by rw [hρ1 i hi]; exact r4 i hi
          have hget1 : ∀ (j : Nat) (i : Id), order[j]? = some i → os[j]? = C1.ρ i := fun j i hj => by rw [hρ1 i (List.mem_of_getElem? hj)]; exact g2 j i hj
          obtain ⟨hext, hinv⟩ := callee_inv k4 r1 hcl1 g1 hget1
          have hargr : RepL (calleeCtx C1 order (os.map (Obj.ren (toPos order)))) (AVal.renL (toPos order) vs) (c.args.map a.eval).toList :=
            RepL.ext hext vs _ (fun i hi => r3 i hi) hvr
          split at h
          · cases h
          · rename_i rv os' hK
            have hcall := hS _ _ _ _ _ hK (calleeCtx C1 order (os.map (Obj.ren (toPos order)))) (c.args.map a.eval) rfl hinv hargr
            have hw1 : (calleeCtx C1 order (os.map (Obj.ren (toPos order)))).w = C.w := k1
            rw [hw1] at hcall
            refine hcall.mono fun e w' ⟨val, C', h1, h2, h3, h4, h5, h6⟩ => ⟨val, h1, ?_⟩
            split at h
            · rename_i hsc
              simp only [Bool.and_eq_true, List.isEmpty_iff] at hsc
              have hord := hsc.2
              subst hord
              split at h
              · rename_i hh
                simp only [Bool.and_eq_true, List.isEmpty_iff] at hh
                simp only [Option.some.injEq, Prod.mk.injEq] at h
                obtain ⟨rfl, rfl⟩ := h
                have hk := h4.kept
                simp only at hk
                have hempty : ∀ b x, ¬ OwnSet (calleeCtx C1 [] (os.map (Obj.ren (toPos [])))) b x := by
                  rintro b x ⟨id, ob, q1, _⟩
                  have : os = [] := List.eq_nil_of_length_eq_zero g1
                  subst this
                  simp [calleeCtx, posLook] at q1
                obtain ⟨i1, i2⟩ := hI.plain (C' := { C with w := C'.w }) (hk.mono fun b x _ hx => hempty b x hx) (fun _ _ _ h => h) (fun _ _ _ h => .inl h) (fun b x v hv e => by simp only at hv; rw [e] at hv; cases hv) rfl rfl
                exact ⟨{ C with w := C'.w }, h2, rfl, i1, i2, scal_rep hh.2 h5⟩
              · cases h
            · split at h
              · cases h
              · rename_i hlen
                split at h
                · cases h
                · rename_i hfr
                  simp only [Option.some.injEq, Prod.mk.injEq] at h
                  obtain ⟨rfl, rfl⟩ := h
                  have hfresh0 : ∀ j, j < os'.length - order.length → C.ρ (site + 1, j) = none := by
                    intro j hj
                    cases e : C.ρ (site + 1, j) with
                    | none => rfl
                    | some ob =>
                      exfalso
                      apply hfr
                      rw [List.any_eq_true]
                      exact ⟨j, by simpa using hj, by simp [e]⟩
                  have hfresh : ∀ j, j < os'.length - order.length → C1.ρ (site + 1, j) = none := by
                    intro j hj
                    rw [k3]
                    have h0 := hfresh0 j hj
                    have : ∀ (fs : List Id) (ρ' : Look), ρ' (site + 1, j) = none → updL ρ' (frz C.ρ fs) (site + 1, j) = none := by
                      intro fs
                      induction fs with
                      | nil => intro ρ' h; exact h
                      | cons i r ih =>
                        intro ρ' h
                        simp only [frz]
                        split
                        · rename_i e
                          simp only [updL]
                          refine ih _ ?_
                          by_cases e' : i = (site + 1, j)
                          · rw [e', h0] at e; cases e
                          · rw [if_neg e']; exact h
                        · exact ih _ h
                    exact this fs C.ρ h0
                  obtain ⟨a1, a2, a3⟩ := after_inv (site := site) k4 r1 hcl1 g1 rfl hext hget1 (by omega) hfresh h3 (by rw [hw1]; exact h4) (by simpa using h6)
                  obtain ⟨n1, n2, n3, n4⟩ := ids_spec (site := site) (n := os'.length) r1 (by omega) (fun j hj hm => by
                    obtain ⟨o', q, _⟩ := hcl1 _ hm
                    rw [hfresh j hj] at q; cases q)
                  refine ⟨_, ?_, ?_, a1, k5.trans a2, ?_⟩
                  · exact h2
                  · rw [updL_append, ← k3]
                    funext i
                    rw [updL_zip n1 (by simp)]
                    rfl
                  · refine RepA.ext a3 rv val (fun i hi => ?_) h5
                    obtain ⟨ob, hob⟩ := RepA.live rv val h5 i hi
                    rw [h3] at hob
                    simp only [posLook] at hob
                    split at hob
                    · rename_i h0
                      exact ⟨h0, (List.getElem?_eq_some_iff.1 hob).1⟩
                    · cases hob

theorem cOp_call {m : Mk} {f : FuncId} {args : List (AX × Bool)} {sc : Bool} (hc : cOp P m o = some (.call f args sc)) :
    ∃ c axs, o.op = .call c ∧ c.callee = .value (.func f) ∧ cXs c.args = some axs ∧ args.map (·.1) = axs ∧ enterable P f = true := by
  unfold cOp at hc
  split at hc
  all_goals (try (repeat' split at hc)) <;> (try (simp at hc; done))
  rename_i _ c hop _ _ f' axs h1 h2 _ fn _ hen
  simp only [Option.some.injEq, AK.call.injEq] at hc
  obtain ⟨rfl, rfl, rfl⟩ := hc
  exact ⟨c, axs, hop, h1, h2, map_fst_zipIdx axs _, hen⟩

theorem op_all {K : Orc} (hS : SoundK P K) (hI : Inv B C) (hE : RepE C g a) {m : Mk} {k : AK} {site : Nat} {v : AVal} {upd : List (Id × Obj)} (hc : cOp P m o = some k) (h : opE K site k g C.ρ = some (v, upd)) : Does P o a C.w (Owes B C v upd) := by
  by_cases hk : ∃ f args sc, k = .call f args sc
  · obtain ⟨f, args, sc, rfl⟩ := hk
    obtain ⟨c, axs, h1, h2, h3, h4, h5⟩ := cOp_call hc
    exact op_call hS hI hE h1 h2 h3 h4 h5 h
  · exact op_sound hI hE (fun f args sc e => hk ⟨f, args, sc, e⟩) hc h

end
end Go.Am
