/- The abstract machine: the operations that read, make or write memory. -/
import Derived.Test.YtpmlioigoiipaaaAmOps
import Derived.Laws.AppendOwn
set_option linter.unusedVariables false
set_option linter.unusedSimpArgs false
namespace Go.Am

/-! ## Rows of elements -/

def FlatD (F : Froz) (sz : Nat) : List Dat → List Value → Prop
  | [], cs => cs = []
  | d :: r, cs => ∃ c cs', cs = c ++ cs' ∧ c.length = sz ∧ RepD F d c ∧ FlatD F sz r cs'

theorem FlatD.length {F : Froz} {sz : Nat} : ∀ {ds : List Dat} {cs : List Value}, FlatD F sz ds cs → cs.length = ds.length * sz
  | [], cs, h => by simp only [FlatD] at h; simp [h]
  | d :: r, cs, h => by
    simp only [FlatD] at h
    obtain ⟨c, cs', rfl, h1, _, h3⟩ := h
    simp only [List.length_append, h1, h3.length, List.length_cons, Nat.add_mul]; omega

theorem FlatD.mono {F F' : Froz} (hF : F.le F') {sz : Nat} : ∀ {ds : List Dat} {cs : List Value}, FlatD F sz ds cs → FlatD F' sz ds cs
  | [], cs, h => h
  | d :: r, cs, h => by
    simp only [FlatD] at h ⊢
    obtain ⟨c, cs', h0, h1, h2, h3⟩ := h
    exact ⟨c, cs', h0, h1, RepD.mono hF _ _ h2, h3.mono hF⟩

theorem FlatD.get {F : Froz} {sz : Nat} : ∀ {ds : List Dat} {cs : List Value}, FlatD F sz ds cs → ∀ {i : Nat} {d : Dat}, ds[i]? = some d →
    ∃ c, c.length = sz ∧ RepD F d c ∧ ∀ (j : Nat) (v : Value), c[j]? = some v → cs[i * sz + j]? = some v
  | [], cs, h, i, d, hi => by simp at hi
  | x :: r, cs, h, i, d, hi => by
    simp only [FlatD] at h
    obtain ⟨c, cs', rfl, h1, h2, h3⟩ := h
    cases i with
    | zero =>
      simp at hi; subst hi
      refine ⟨c, h1, h2, fun j v hj => ?_⟩
      have := (List.getElem?_eq_some_iff.1 hj).1
      simpa [List.getElem?_append_left this] using hj
    | succ i =>
      simp at hi
      obtain ⟨c', h4, h5, h6⟩ := h3.get hi
      refine ⟨c', h4, h5, fun j v hj => ?_⟩
      rw [List.getElem?_append_right (by rw [h1, Nat.add_mul]; omega), h1]
      have := h6 j v hj
      rwa [show (i + 1) * sz + j - sz = i * sz + j by rw [Nat.add_mul]; omega]

theorem FlatD.append {F : Froz} {sz : Nat} : ∀ {ds ds' : List Dat} {cs cs' : List Value}, FlatD F sz ds cs → FlatD F sz ds' cs' → FlatD F sz (ds ++ ds') (cs ++ cs')
  | [], ds', cs, cs', h, h' => by simp only [FlatD] at h; subst h; simpa using h'
  | d :: r, ds', cs, cs', h, h' => by
    simp only [FlatD] at h
    obtain ⟨c, cs'', rfl, h1, h2, h3⟩ := h
    simp only [List.cons_append, FlatD]
    exact ⟨c, cs'' ++ cs', by simp, h1, h2, h3.append h'⟩

theorem FlatD.one {F : Froz} {sz : Nat} : ∀ {ds : List Dat} {cs : List Value}, FlatD F sz ds cs → ∀ c ∈ cs, c.oneCell' = true
  | [], cs, h => by simp only [FlatD] at h; subst h; simp
  | d :: r, cs, h => by
    simp only [FlatD] at h
    obtain ⟨c, cs', rfl, h1, h2, h3⟩ := h
    intro x hx
    rcases List.mem_append.1 hx with hx | hx
    · exact h2.one x hx
    · exact h3.one x hx

theorem FlatD.width {F : Froz} {sz : Nat} : ∀ {ds : List Dat} {cs : List Value}, FlatD F sz ds cs → ∀ d ∈ ds, d.width = sz
  | [], cs, h, d, hd => by simp at hd
  | x :: r, cs, h, d, hd => by
    simp only [FlatD] at h
    obtain ⟨c, cs', rfl, h1, h2, h3⟩ := h
    cases hd with
    | head => rw [← h2.length, h1]
    | tail _ hd => exact h3.width d hd

/-- elements that lie somewhere, as one row -/
theorem flat_of {F : Froz} {sz : Nat} (M : Nat → Option Value) : ∀ {ds : List Dat} (o : Nat), (∀ (i : Nat) (d : Dat), ds[i]? = some d → ∃ c, c.length = sz ∧ RepD F d c ∧ ∀ (j : Nat) (v : Value), c[j]? = some v → M (o + i * sz + j) = some v) →
    ∃ cs, FlatD F sz ds cs ∧ ∀ (j : Nat) (v : Value), cs[j]? = some v → M (o + j) = some v
  | [], o, h => ⟨[], rfl, by simp⟩
  | d :: r, o, h => by
    obtain ⟨c, h1, h2, h3⟩ := h 0 d rfl
    obtain ⟨cs, h4, h5⟩ := flat_of M (ds := r) (o + sz) (fun i d hi => by
      obtain ⟨c, h1, h2, h3⟩ := h (i + 1) d (by simpa using hi)
      refine ⟨c, h1, h2, fun j v hj => ?_⟩
      have := h3 j v hj
      rwa [show o + (i + 1) * sz + j = o + sz + i * sz + j by rw [Nat.add_mul]; omega] at this)
    refine ⟨c ++ cs, ⟨c, cs, rfl, h1, h2, h4⟩, fun j v hj => ?_⟩
    rcases Nat.lt_or_ge j c.length with hlt | hge
    · rw [List.getElem?_append_left hlt] at hj
      have := h3 j v hj
      simpa using this
    · rw [List.getElem?_append_right hge] at hj
      have := h5 _ v hj
      rwa [show o + sz + (j - c.length) = o + j by omega] at this

theorem flat_row {F : Froz} {sz b o : Nat} {ds : List Dat} {cs : List Value} (h : FlatD F sz ds cs) (hc : cellsAt F b o cs) : RowD F ds b o sz := by
  refine rowD_of fun i d hd => ?_
  obtain ⟨c, h1, h2, h3⟩ := h.get hd
  refine ⟨c, h1, h2, fun j v hj => ?_⟩
  have := hc _ _ (h3 j v hj)
  rwa [← Nat.add_assoc] at this

theorem flat_replicate {F : Froz} {d : Dat} {c : List Value} (h : RepD F d c) : ∀ (n : Nat), FlatD F d.width (List.replicate n d) (List.replicate n c).flatten
  | 0 => rfl
  | n + 1 => by
    simp only [List.replicate_succ, List.flatten_cons, FlatD]
    exact ⟨c, _, rfl, h.length, h, flat_replicate h n⟩

section
variable {P : Program} {o : Oper} {a : Act} {B : Base} {C : Ctx} {g : Nat → AVal}

/-- an element of an array -/
theorem Inv.elem (hI : Inv B C) {id : Id} {sz ver : Nat} {fz : Bool} {es : List Dat} (h : C.ρ id = some (.arr sz ver fz es)) {i : Nat} {d : Dat} (hd : es[i]? = some d) :
    ∃ c, c.length = sz ∧ RepD C.F d c ∧ ∀ (j : Nat) (v : Value), c[j]? = some v → C.w.cell? ⟨(C.μ id).b, (C.μ id).o + i * sz + j, none⟩ = some v := by
  obtain ⟨h1, h2, h3, h4⟩ := hI.objs id _ h
  cases fz
  · exact (h3 rfl).2 i d hd
  · obtain ⟨c, q1, q2, q3⟩ := (h4 rfl).get hd
    exact ⟨c, q1, q2, fun j v hj => hI.Fw _ _ _ (q3 j v hj)⟩

theorem addr_cells {w : World} {b o : Nat} {cs : List Value} (h : ∀ (j : Nat) (v : Value), cs[j]? = some v → w.cell? ⟨b, o + j, none⟩ = some v) :
    ∀ (j : Nat) (v : Value), cs[j]? = some v → w.cell? ((⟨b, o, none⟩ : Addr).add j) = some v := fun j v hj => by rw [Addr.add_mk]; exact h j v hj

/-- the elements of a slice, as they lie -/
theorem elemsOf_rep (hI : Inv B C) {sz : Nat} {x : AVal} {ds : List Dat} {val : Value} (h : elemsOf C.ρ sz x = some ds) (hr : RepA C x val) :
    ∃ p cap cs, val = .slice p ds.length cap ∧ FlatD C.F sz ds cs ∧ (0 < ds.length → ∃ b o, p = some ⟨b, o, none⟩ ∧ ∀ (j : Nat) (v : Value), cs[j]? = some v → C.w.cell? ⟨b, o + j, none⟩ = some v) := by
  unfold elemsOf at h
  split at h
  · rename_i l
    split at h
    · rename_i hall
      simp only [Option.some.injEq] at h
      subst h
      simp only [RepA] at hr
      have := hr.cell rfl
      simp only [RepD] at this
      obtain ⟨p, cap, h1, h2, h3⟩ := this
      simp only [List.cons.injEq, and_true] at h1
      rcases h3 with h3 | ⟨b, o, sz', ha, hrow⟩
      · subst h3
        exact ⟨p, cap, [], h1, rfl, by simp⟩
      · cases l with
        | nil => exact ⟨p, cap, [], h1, rfl, by simp⟩
        | cons d r =>
          have hsz : sz' = sz := by
            have w1 := hrow.width d (by simp)
            simp at hall
            omega
          subst hsz
          obtain ⟨cs, h4, h5⟩ := flat_of (F := C.F) (sz := sz') (fun j => C.F b j) (ds := d :: r) o (fun i d hd => by
            obtain ⟨c, q1, q2, q3⟩ := hrow.get hd
            exact ⟨c, q1, q2, fun j v hj => q3 j v hj⟩)
          exact ⟨p, cap, cs, h1, h4, fun _ => ⟨b, o, ha, fun j v hj => hI.Fw _ _ _ (h5 j v hj)⟩⟩
    · cases h
  · simp only [Option.some.injEq] at h
    subst h
    simp only [RepA] at hr
    exact ⟨none, 0, [], hr, rfl, by simp⟩
  · simp only [Option.some.injEq] at h
    subst h
    simp only [RepA] at hr
    obtain ⟨p, c, h1, h2⟩ := hr
    exact ⟨p, c, [], h1, rfl, by simp⟩
  · rename_i id ver sz' off len
    split at h
    · rename_i sz'' ver' fz es hρ
      split at h
      · rename_i hc
        obtain ⟨rfl, rfl, rfl, hb⟩ := hc
        simp only [Option.some.injEq] at h
        subst h
        simp only [RepA] at hr
        obtain ⟨A, p, cap, q1, q2, q3, q4, q5, q6⟩ := hr
        have hA : A = ⟨ver, sz, es.length, C.μ id⟩ := by simpa [arrAt, hρ] using q1.symm
        subst hA
        obtain ⟨g1, g2, g3, g4⟩ := q6 rfl
        have hlen : ((es.drop off).take len).length = len := by simp; omega
        obtain ⟨cs, h4, h5⟩ := flat_of (F := C.F) (sz := sz) (fun j => C.w.cell? ⟨(C.μ id).b, j, none⟩) (ds := (es.drop off).take len) ((C.μ id).o + off * sz) (fun i d hd => by
          rw [List.getElem?_take] at hd
          split at hd
          · rw [List.getElem?_drop] at hd
            obtain ⟨c, r1, r2, r3⟩ := hI.elem hρ hd
            refine ⟨c, r1, r2, fun j v hj => ?_⟩
            have := r3 j v hj
            rwa [show (C.μ id).o + off * sz + i * sz + j = (C.μ id).o + (off + i) * sz + j by rw [Nat.add_mul]; omega]
          · cases hd)
        refine ⟨p, cap, cs, by rw [hlen]; exact q3, h4, fun hp => ?_⟩
        rw [hlen] at hp
        exact ⟨_, _, g4 (by omega), fun j v hj => h5 j v hj⟩
      · cases h
    · cases h
  · cases h

theorem run_lenOf_slice (p : Option Addr) (n c : Nat) (w : World) : (Builtin.lenOf (.slice p n c)).run P w = .ok n w := rfl

theorem run_first_slice {w : World} {p : Option Addr} {len cap n sz : Nat} {cs : List Value} (hl : cs.length = n * sz) (h : 0 < cs.length → ∃ b o, p = some ⟨b, o, none⟩ ∧ ∀ (j : Nat) (v : Value), cs[j]? = some v → w.cell? ⟨b, o + j, none⟩ = some v) :
    (Builtin.firstCells sz n (.slice p len cap)).run P w = .ok cs.toArray w := by
  cases p with
  | none =>
    have : cs = [] := by
      cases cs with
      | nil => rfl
      | cons c r => obtain ⟨b, o, h1, _⟩ := h (by simp); cases h1
    subst this
    exact run_firstCells_none w sz n len cap
  | some p =>
    cases cs with
    | nil => exact run_firstCells_some w sz n p len cap [] hl (by simp)
    | cons c r =>
      obtain ⟨b, o, h1, h2⟩ := h (by simp)
      cases h1
      exact run_firstCells_some w sz n _ len cap _ hl (addr_cells h2)

/-- what is appended or copied -/
theorem srcOf_rep (hI : Inv B C) {sz : Nat} (hsz : 1 ≤ sz) {x : AVal} {ds : List Dat} {val : Value} (h : srcOf C.ρ sz x = some ds) (hr : RepA C x val) :
    ∃ cs, FlatD C.F sz ds cs ∧ (∀ w, (Builtin.lenOf val).run P w = .ok ds.length w) ∧
      ∀ n, n ≤ ds.length → ∀ w, (∀ ad, w.cell? ad = C.w.cell? ad) → (Builtin.firstCells sz n val).run P w = .ok (cs.take (n * sz)).toArray w := by
  unfold srcOf at h
  split at h
  · rename_i s
    split at h
    · rename_i h1
      subst h1
      simp only [Option.some.injEq] at h
      subst h
      rw [rep_str hr]
      have hflat : ∀ (s : List UInt8), FlatD C.F 1 (s.map fun b => Dat.int .u8 b.toNat) (s.map fun b => Value.int .u8 b.toNat) := by
        intro s
        induction s with
        | nil => rfl
        | cons b r ih => exact ⟨[_], _, rfl, rfl, by simp [RepD], ih⟩
      refine ⟨_, hflat s, fun w => by simp only [Builtin.lenOf, List.length_map]; rfl, fun n hn w _ => ?_⟩
      simp only [Builtin.firstCells]
      have e : (((ByteArray.mk s.toArray).extract 0 n).data.map fun b => Value.int .u8 b.toNat) = ((s.map fun b => Value.int .u8 b.toNat).take (n * 1)).toArray := by
        rw [extract_mk]
        simp [List.map_take]
      rw [e]; rfl
    · cases h
  · obtain ⟨p, cap, cs, h1, h2, h3⟩ := elemsOf_rep hI h hr
    subst h1
    refine ⟨cs, h2, fun w => rfl, fun n hn w hw => ?_⟩
    have hl := h2.length
    refine run_first_slice ?_ ?_
    · rw [List.length_take, hl]
      exact Nat.min_eq_left (Nat.mul_le_mul_right _ hn)
    · intro hp
      have : 0 < ds.length := by
        rcases Nat.eq_zero_or_pos ds.length with h | h
        · rw [h] at hl; simp at hl; simp [hl] at hp
        · exact h
      obtain ⟨b, o, q1, q2⟩ := h3 this
      refine ⟨b, o, q1, fun j v hj => ?_⟩
      rw [hw]
      rw [List.getElem?_take] at hj
      split at hj
      · exact q2 j v hj
      · cases hj

/-! ## Loads -/

theorem list_of_cells {w : World} {b : Nat} (n : Nat) : ∀ (o : Nat), (∀ j, j < n → ∃ v, w.cell? ⟨b, o + j, none⟩ = some v) → ∃ cs : List Value, cs.length = n ∧ ∀ (j : Nat) (v : Value), cs[j]? = some v → w.cell? ⟨b, o + j, none⟩ = some v := by
  induction n with
  | zero => intro o _; exact ⟨[], rfl, by simp⟩
  | succ n ih =>
    intro o h
    obtain ⟨v, hv⟩ := h 0 (by omega)
    obtain ⟨cs, h1, h2⟩ := ih (o + 1) (fun j hj => by have := h (j + 1) (by omega); rwa [show o + (j + 1) = o + 1 + j by omega] at this)
    refine ⟨v :: cs, by simp [h1], fun j u hj => ?_⟩
    cases j with
    | zero => simp at hj; subst hj; exact hv
    | succ j => simp at hj; have := h2 j u hj; rwa [show o + (j + 1) = o + 1 + j by omega]

theorem loadE_rep (hI : Inv B C) {n : Nat} {agg : Bool} {x v : AVal} {val : Value} (hn : 1 ≤ n) (h : loadE C.ρ n agg x = some v) (hr : RepA C x val) :
    ∃ b o, val = .pointer (some ⟨b, o, none⟩) ∧
      (agg = true → ∃ cs : List Value, cs.length = n ∧ (∀ (j : Nat) (u : Value), cs[j]? = some u → C.w.cell? ⟨b, o + j, none⟩ = some u) ∧ RepA C v (.agg cs.toArray)) ∧
      (agg = false → ∃ u, C.w.cell? ⟨b, o, none⟩ = some u ∧ RepA C v u) := by
  unfold loadE at h
  split at h
  · rename_i id off
    split at h
    · rename_i cells hρ
      split at h
      · rename_i hb
        simp only [RepA] at hr
        obtain ⟨L, h1, h2⟩ := hr
        have hL : L = C.μ id := by simpa [boxAt, hρ] using h1.symm
        subst hL
        obtain ⟨o1, o2, o3, o4⟩ := hI.objs id _ hρ
        refine ⟨_, _, h2, fun e => ?_, fun e => ?_⟩
        · subst e
          simp only [if_true, Option.some.injEq] at h
          subst h
          obtain ⟨cs, h3, h4⟩ := list_of_cells (w := C.w) (b := (C.μ id).b) n ((C.μ id).o + off) (fun j hj => by
            obtain ⟨v, hv, _⟩ := o4 (off + j) cells[off + j] (List.getElem?_eq_getElem (by omega))
            exact ⟨v, by rwa [Nat.add_assoc]⟩)
          have hlen : ((cells.drop off).take n).length = n := by simp; omega
          have hrep : RepL C ((cells.drop off).take n) cs := by
            refine repL_of (by rw [h3, hlen]) fun i x c hi hc => ?_
            rw [List.getElem?_take] at hi
            split at hi
            · rw [List.getElem?_drop] at hi
              obtain ⟨v, hv, hx⟩ := o4 _ _ hi
              have := h4 i c hc
              rw [Nat.add_assoc, hv] at this
              cases this
              exact hx
            · cases hi
          have hleaf : ((cells.drop off).take n).all AVal.leaf = true := by
            rw [List.all_eq_true] at o2 ⊢
            exact fun x hx => o2 x (List.mem_of_mem_drop (List.mem_of_mem_take hx))
          refine ⟨cs, h3, h4, ?_⟩
          simp only [RepA]
          refine ⟨_, rfl, hrep, hleaf, fun c hc => ?_⟩
          have hc' : c ∈ cs := by simpa using hc
          obtain ⟨i, hi⟩ := List.getElem?_of_mem hc'
          obtain ⟨x, hx⟩ : ∃ x, ((cells.drop off).take n)[i]? = some x := by
            have := (List.getElem?_eq_some_iff.1 hi).1
            exact ⟨_, List.getElem?_eq_getElem (by rw [hlen]; omega)⟩
          obtain ⟨c', e1, e2⟩ := hrep.get hx
          rw [hi] at e1
          cases e1
          rw [List.all_eq_true] at hleaf
          exact (e2.leaf (hleaf x (List.mem_of_getElem? hx))).1
        · subst e
          simp only [Bool.false_eq_true, if_false] at h
          obtain ⟨u, hu, hx⟩ := o4 _ _ h
          exact ⟨u, hu, hx⟩
      · cases h
    · cases h
  · rename_i id ver i off
    split at h
    · rename_i sz ver' fz es hρ
      split at h
      · rename_i hv
        subst hv
        cases e : es[i]? with
        | none => simp [e] at h
        | some d =>
          simp only [e] at h
          split at h
          · rename_i hb
            simp only [RepA] at hr
            obtain ⟨A, p, h1, h2, h3, h4⟩ := hr
            have hA : A = ⟨ver, sz, es.length, C.μ id⟩ := by simpa [arrAt, hρ] using h1.symm
            subst hA
            obtain ⟨g1, g2⟩ := h4 rfl
            subst g2
            obtain ⟨c, c1, c2, c3⟩ := hI.elem hρ e
            have hagg := c2.cellsAgg
            have hlen := hagg.length
            refine ⟨_, _, h3, fun e' => ?_, fun e' => ?_⟩
            · subst e'
              simp only [if_true, Option.some.injEq] at h
              subst h
              refine ⟨(c.drop off).take n, by simp; omega, fun j u hj => ?_, ?_⟩
              · rw [List.getElem?_take] at hj
                split at hj
                · rw [List.getElem?_drop] at hj
                  have := c3 _ _ hj
                  rwa [← Nat.add_assoc] at this
                · cases hj
              · simp only [RepA]
                exact repV_agg (by simpa using (hagg.drop off).take n)
            · subst e'
              simp only [Bool.false_eq_true, if_false] at h
              cases e2 : d.cells[off]? with
              | none => rw [e2] at h; cases h
              | some dd =>
                rw [e2] at h
                simp only [Option.map_some, Option.some.injEq] at h
                subst h
                obtain ⟨u, u1, u2, u3⟩ := hagg.get e2
                exact ⟨u, c3 _ _ u1, repV_leaf u2 u3⟩
          · cases h
      · cases h
    · rename_i ver' es hρ
      split at h
      · rename_i hc
        obtain ⟨rfl, rfl, rfl⟩ := hc
        simp only [RepA] at hr
        obtain ⟨A, p, h1, h2, h3, h4⟩ := hr
        have hA : A = ⟨ver, 1, es.length, C.μ id⟩ := by simpa [arrAt, hρ] using h1.symm
        subst hA
        obtain ⟨g1, g2⟩ := h4 rfl
        subst g2
        obtain ⟨o1, o2, o3, o4⟩ := hI.objs id _ hρ
        obtain ⟨u, hu, hx⟩ := o4 _ _ h
        exact ⟨_, _, h3, fun e => by simp at e, fun _ => ⟨u, by simpa using hu, hx⟩⟩
      · cases h
    · cases h
  · rename_i l
    split at h
    · rename_i hb
      simp only [RepA] at hr
      obtain ⟨b, o, cs, h1, h2, h3⟩ := hr
      refine ⟨b, o, h1, fun e => ?_, fun e => ?_⟩
      · subst e
        simp only [if_true, Option.some.injEq] at h
        subst h
        have := h2.length
        refine ⟨cs.take n, by simp; omega, fun j u hj => ?_, ?_⟩
        · rw [List.getElem?_take] at hj
          split at hj
          · exact hI.Fw _ _ _ (h3 _ _ hj)
          · cases hj
        · simp only [RepA]
          exact repV_agg (by simpa using h2.take n)
      · subst e
        simp only [Bool.false_eq_true, if_false] at h
        cases e2 : l[0]? with
        | none => simp [e2] at h
        | some dd =>
          simp [e2] at h
          subst h
          obtain ⟨u, u1, u2, u3⟩ := h2.get e2
          exact ⟨u, by simpa using hI.Fw _ _ _ (h3 _ _ u1), repV_leaf u2 u3⟩
    · cases h
  · cases h

theorem op_ld (hI : Inv B C) (hE : RepE C g a) {t : TypeId} {x : Operand} {q : TI} {ax : AX} {v : AVal} (ho : o.op = .load t x) (hx : cX x = some ax) (hq : tI P t = some q) (hq1 : 1 ≤ q.size)
    (h : loadE C.ρ q.size q.agg (evX g ax) = some v) : Does P o a C.w (Owes B C v []) := by
  obtain ⟨b, of, h1, h2, h3⟩ := loadE_rep hI hq1 h (cX_rep hE hx)
  cases e : q.agg
  · obtain ⟨u, hu, hr⟩ := h3 e
    refine does_same hI ?_ hr
    simp [execOp, ho, Instr.loadAt, h1, Instr.sureAddr, loadVar, run_isAgg hq, e, hu]
  · obtain ⟨cs, c1, c2, hr⟩ := h2 e
    refine does_same hI ?_ hr
    have := run_loadCells_list (P := P) C.w ⟨b, of, none⟩ cs (addr_cells c2)
    rw [c1] at this
    simp [execOp, ho, Instr.loadAt, h1, Instr.sureAddr, loadVar, run_isAgg hq, e, run_sizeOf hq, this]

end
end Go.Am
