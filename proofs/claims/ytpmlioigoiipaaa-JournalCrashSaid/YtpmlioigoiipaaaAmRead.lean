/- The abstract machine: what a law is handed reads as data. -/
import Derived.Test.YtpmlioigoiipaaaAmTop
import Derived.ChangeArms
import Derived.WideShapes
set_option linter.unusedVariables false
namespace Go.Am

/-- every reading of a row of this type is a datum that fits T -/
def ReadsAs (P : Program) (w : World) (t : TypeId) (T : Dat → Prop) : Prop :=
  ∀ (H : Type) (enc : TypeId × Value → H) (base : Nat) (spare : Nat → Bool) (held : Bool) (fuel : Nat) (cs : List Value) (x : DataW H × List MemPlace),
    DataW.trod enc P w base spare held fuel t cs = some x → ∃ D, RepD (allF w) D cs ∧ T D

def IsInt (k : IntKind) (D : Dat) : Prop := ∃ n, D = .int k n ∧ (Lit.int k n).wf = true
def IsBool (D : Dat) : Prop := ∃ b, D = .bool b
def IsStr (D : Dat) : Prop := ∃ s, D = .str s ∧ s.length ≤ maxLen
def IsSl (T : Dat → Prop) (D : Dat) : Prop := ∃ l, D = .sl l ∧ (∀ d ∈ l, T d) ∧ l.length ≤ maxLen
def IsAgg (Ts : List (Dat → Prop)) (D : Dat) : Prop := ∃ ds : List Dat, D = .agg (ds.flatMap Dat.cells) ∧ ds.length = Ts.length ∧ ∀ (i : Nat) (T : Dat → Prop) (d : Dat), Ts[i]? = some T → ds[i]? = some d → T d

section
variable {P : Program} {w : World} {t e : TypeId}

theorem reads_int {k : IntKind} (ht : P.underlying t = some (.int k)) : ReadsAs P w t (IsInt k) := by
  intro H enc base spare held fuel cs x h
  obtain ⟨n, rfl, _, hw⟩ := DataW.trod_int ht h
  exact ⟨.int k n, by simp [RepD], n, rfl, hw⟩

theorem reads_bool (ht : P.underlying t = some .bool) : ReadsAs P w t IsBool := by
  intro H enc base spare held fuel cs x h
  obtain ⟨b, rfl, _⟩ := DataW.trod_bool ht h
  exact ⟨.bool b, by simp [RepD], b, rfl⟩

theorem reads_string (ht : P.underlying t = some .string) : ReadsAs P w t IsStr := by
  intro H enc base spare held fuel cs x h
  obtain ⟨s, rfl, _, hs⟩ := DataW.trod_string ht h
  exact ⟨.str s.data.toList, by simp [RepD], s.data.toList, rfl, by simpa using hs⟩

theorem reads_slice {T : Dat → Prop} (ht : P.underlying t = some (.slice e)) (hc : 0 < P.cellsOf e) (he : ReadsAs P w e T) : ReadsAs P w t (IsSl T) := by
  intro H enc base spare held fuel cs x h
  rcases DataW.trod_slice ht h with ⟨rfl, _⟩ | ⟨a, len, cap, elems, rest, n, _, rfl, _, hb, hl, hm, hlen, hel, _, _⟩
  · exact ⟨.sl [], by simp [RepD], [], rfl, by simp, by simp⟩
  · have each : ∀ i, i < len → ∃ D cs, RepD (allF w) D cs ∧ T D ∧ cs.length = P.cellsOf e ∧ (∀ j, j < P.cellsOf e → w.cell? ((a.add (i * P.cellsOf e)).add j) = cs[j]?) := by
      intro i hi
      have h1 := hel i hi
      have h2 : elems[i]? = some (elems[i]'(by omega)) := by simp
      rw [h2, Option.bind_eq_some_iff] at h1
      obtain ⟨cs', hcs, hy⟩ := h1
      obtain ⟨D, hD, hT⟩ := he H enc base spare held n cs' _ hy
      obtain ⟨_, hlen', hcell⟩ := World.cells?_some hcs
      exact ⟨D, cs', hD, hT, hlen', hcell⟩
    have list : ∀ m, m ≤ len → ∃ l : List Dat, l.length = m ∧ (∀ d ∈ l, T d) ∧ ∀ i d, l[i]? = some d → ∃ cs, RepD (allF w) d cs ∧ cs.length = P.cellsOf e ∧ (∀ j, j < P.cellsOf e → w.cell? ((a.add (i * P.cellsOf e)).add j) = cs[j]?) := by
      intro m
      induction m with
      | zero => intro _; exact ⟨[], rfl, by simp, by simp⟩
      | succ m ih =>
        intro hm'
        obtain ⟨l, l1, l2, l3⟩ := ih (by omega)
        obtain ⟨D, cs, d1, d2, d3, d4⟩ := each m (by omega)
        refine ⟨l ++ [D], by simp [l1], fun d hd => ?_, fun i d hi => ?_⟩
        · rcases List.mem_append.1 hd with hd | hd
          · exact l2 d hd
          · simp at hd; subst hd; exact d2
        · by_cases him : i < m
          · rw [List.getElem?_append_left (by omega)] at hi
            exact l3 i d hi
          · rw [List.getElem?_append_right (by omega)] at hi
            have : i = m := by
              have := (List.getElem?_eq_some_iff.1 hi).1
              simp at this
              omega
            subst this
            simp [l1] at hi
            subst hi
            exact ⟨cs, d1, d3, d4⟩
    obtain ⟨l, l1, l2, l3⟩ := list len (Nat.le_refl _)
    refine ⟨.sl l, ?_, l, rfl, l2, by omega⟩
    simp only [RepD]
    refine ⟨some a, cap, by rw [l1], by omega, ?_⟩
    cases l with
    | nil => exact .inl rfl
    | cons d r =>
      right
      have hspot : a.spot = none := by
        obtain ⟨cs, c1, c2, c3⟩ := l3 0 d rfl
        have := c3 0 hc
        cases hs : a.spot with
        | none => rfl
        | some sp =>
          have hcs : cs[0]? = some (cs[0]'(by omega)) := by simp
          rw [hcs] at this
          unfold World.cell? at this
          simp only [Addr.add] at this
          split at this
          · simp at this; rw [hs] at this; simp at this
          · cases this
      refine ⟨a.block, a.off, P.cellsOf e, by cases a; simp only at hspot; subst hspot; rfl, rowD_of fun i d hi => ?_⟩
      obtain ⟨cs, c1, c2, c3⟩ := l3 i d hi
      refine ⟨cs, c2, c1, fun j v hj => ?_⟩
      have hjl : j < P.cellsOf e := by rw [← c2]; exact (List.getElem?_eq_some_iff.1 hj).1
      have := c3 j hjl
      rw [hj] at this
      have ea : (a.add (i * P.cellsOf e)).add j = ⟨a.block, a.off + i * P.cellsOf e + j, none⟩ := by
        obtain ⟨b, o, s⟩ := a
        simp only at hspot
        subst hspot
        unfold Addr.add
        split <;> split <;> simp_all
      rw [ea] at this
      exact this

/-- the fields lie one behind the other, to the end -/
def laid (P : Program) (total : Nat) : Nat → List Field → Bool
  | o, [] => o == total
  | o, f :: r => f.offset == o && laid P total (o + P.cellsOf f.type) r

theorem reads_fields {cs : List Value} {total : Nat} (hlen : cs.length = total) : ∀ (fs : List Field) (Ts : List (Dat → Prop)) (o : Nat), laid P total o fs = true → fs.length = Ts.length →
    (∀ (i : Nat) (f : Field) (T : Dat → Prop), fs[i]? = some f → Ts[i]? = some T → ∃ D, RepD (allF w) D ((cs.drop f.offset).take (P.cellsOf f.type)) ∧ T D) →
    ∃ ds : List Dat, AggD (allF w) (ds.flatMap Dat.cells) (cs.drop o) ∧ ds.length = Ts.length ∧ ∀ (i : Nat) (T : Dat → Prop) (d : Dat), Ts[i]? = some T → ds[i]? = some d → T d
  | [], [], o, h, _, _ => by
    simp only [laid, beq_iff_eq] at h
    refine ⟨[], ?_, rfl, by simp⟩
    rw [List.drop_of_length_le (by omega)]
    simp [AggD]
  | [], T :: Ts, o, h, hl, _ => by simp at hl
  | f :: fs, [], o, h, hl, _ => by simp at hl
  | f :: fs, T :: Ts, o, h, hl, he => by
    simp only [laid, Bool.and_eq_true, beq_iff_eq] at h
    obtain ⟨h1, h2⟩ := h
    obtain ⟨ds, e1, e2, e3⟩ := reads_fields hlen fs Ts _ h2 (by simpa using hl) fun i f' T' hi hT => he (i + 1) f' T' (by simpa using hi) (by simpa using hT)
    obtain ⟨D, d1, d2⟩ := he 0 f T rfl rfl
    refine ⟨D :: ds, ?_, by simp [e2], fun i T' d hi hd => ?_⟩
    · rw [List.flatMap_cons]
      have := (d1.cellsAgg).append e1
      rw [h1] at this
      have hsplit : (cs.drop o).take (P.cellsOf f.type) ++ cs.drop (o + P.cellsOf f.type) = cs.drop o := by
        rw [← List.drop_drop, List.take_append_drop]
      rwa [hsplit] at this
    · cases i with
      | zero => simp at hi hd; subst hi; subst hd; exact d2
      | succ i => exact e3 i T' d (by simpa using hi) (by simpa using hd)

theorem reads_struct {fs : Array Field} {Ts : List (Dat → Prop)} (ht : P.underlying t = some (.struct fs)) (hl : laid P (P.cellsOf t) 0 fs.toList = true) (hn : fs.size = Ts.length)
    (he : ∀ (i : Nat) (f : Field) (T : Dat → Prop), fs[i]? = some f → Ts[i]? = some T → ReadsAs P w f.type T) : ReadsAs P w t (IsAgg Ts) := by
  intro H enc base spare held fuel cs x h
  obtain ⟨xs, n, _, _, hlen, hxs, hf⟩ := DataW.trod_struct ht h
  obtain ⟨ds, e1, e2, e3⟩ := reads_fields (w := w) hlen fs.toList Ts 0 hl (by simpa using hn) fun i f T hi hT => by
    have hi' : fs[i]? = some f := by simpa using hi
    have hlt : i < xs.length := by rw [hxs]; exact (Array.getElem?_eq_some_iff.1 hi').1
    have := hf i f hi'
    rw [List.getElem?_eq_getElem hlt] at this
    exact he i f T hi' hT H enc base spare held n _ _ this
  exact ⟨.agg (ds.flatMap Dat.cells), by simpa [RepD] using e1, ds, rfl, e2, e3⟩

/-- an argument that is no struct -/
theorem reads_arg {T : Dat → Prop} {H : Type} {enc : TypeId × Value → H} {base : Nat} {spare : Nat → Bool} {held : Bool} {v : Value} {d : DataW H} {ps : List MemPlace} (h : DataW.Trod enc P w base spare held t v d ps) (hr : ReadsAs P w t T)
    (hv : isAggV v = false) (hT : ∀ D, T D → D.isAgg = false) : ∃ D, RepA (ctx0 w) (.dat D) v ∧ T D := by
  obtain ⟨fuel, hf⟩ := h
  obtain ⟨D, h1, h2⟩ := hr H enc base spare held fuel _ _ hf
  exact ⟨D, ⟨h1, by rw [hv, hT D h2]⟩, h2⟩

end
end Go.Am
