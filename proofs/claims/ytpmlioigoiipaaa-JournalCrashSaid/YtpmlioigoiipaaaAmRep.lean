/- The abstract machine: what a value, a cell and an object of the model must be to stand for one of its own; and that this stays so while the world grows. -/
import Derived.Test.YtpmlioigoiipaaaAmDefs
import Derived.Laws.World
import Derived.Laws.Sem
set_option linter.unusedVariables false
set_option linter.unusedSimpArgs false
namespace Go.Am

/-! ## Frozen cells -/

/-- the frozen cells, with what they hold for good -/
abbrev Froz := Nat → Nat → Option Value

def cellsAt (F : Froz) (b o : Nat) (cs : List Value) : Prop := ∀ (j : Nat) (v : Value), cs[j]? = some v → F b (o + j) = some v

def Froz.le (F F' : Froz) : Prop := ∀ b o v, F b o = some v → F' b o = some v

theorem cellsAt.mono {F F' : Froz} (h : F.le F') {b o : Nat} {cs : List Value} (hc : cellsAt F b o cs) : cellsAt F' b o cs :=
  fun j v hj => h _ _ _ (hc j v hj)

mutual
def RepD (F : Froz) : Dat → List Value → Prop
  | .int k n, cs => cs = [.int k n]
  | .bool b, cs => cs = [.bool b]
  | .str s, cs => cs = [.string ⟨s.toArray⟩]
  | .sl l, cs => ∃ a cap, cs = [.slice a l.length cap] ∧ l.length ≤ cap ∧ (l = [] ∨ ∃ b o sz, a = some ⟨b, o, none⟩ ∧ RowD F l b o sz)
  | .agg l, cs => AggD F l cs
def AggD (F : Froz) : List Dat → List Value → Prop
  | [], cs => cs = []
  | d :: r, cs => ∃ c cs', cs = c :: cs' ∧ d.isAgg = false ∧ RepD F d [c] ∧ AggD F r cs'
def RowD (F : Froz) : List Dat → Nat → Nat → Nat → Prop
  | [], _, _, _ => True
  | d :: r, b, o, sz => (∃ cs, cs.length = sz ∧ RepD F d cs ∧ cellsAt F b o cs) ∧ RowD F r b (o + sz) sz
end

def isAggV : Value → Bool
  | .agg _ => true
  | _ => false

def RepV (F : Froz) (d : Dat) (v : Value) : Prop := RepD F d v.cells.toList ∧ isAggV v = d.isAgg

mutual
theorem RepD.mono {F F' : Froz} (h : F.le F') : ∀ (d : Dat) (cs : List Value), RepD F d cs → RepD F' d cs
  | .int k n, cs, hd => by simpa [RepD] using hd
  | .bool b, cs, hd => by simpa [RepD] using hd
  | .str s, cs, hd => by simpa [RepD] using hd
  | .sl l, cs, hd => by
    simp only [RepD] at hd ⊢
    obtain ⟨a, cap, h1, h2, h3⟩ := hd
    refine ⟨a, cap, h1, h2, ?_⟩
    rcases h3 with h3 | ⟨b, o, sz, ha, hr⟩
    · exact .inl h3
    · exact .inr ⟨b, o, sz, ha, RowD.mono h l b o sz hr⟩
  | .agg l, cs, hd => by
    simp only [RepD] at hd ⊢
    exact AggD.mono h l cs hd
theorem AggD.mono {F F' : Froz} (h : F.le F') : ∀ (l : List Dat) (cs : List Value), AggD F l cs → AggD F' l cs
  | [], cs, hd => by simpa [AggD] using hd
  | d :: r, cs, hd => by
    simp only [AggD] at hd ⊢
    obtain ⟨c, cs', h1, h2, h3, h4⟩ := hd
    exact ⟨c, cs', h1, h2, RepD.mono h d _ h3, AggD.mono h r _ h4⟩
theorem RowD.mono {F F' : Froz} (h : F.le F') : ∀ (l : List Dat) (b o sz : Nat), RowD F l b o sz → RowD F' l b o sz
  | [], b, o, sz, hd => by simp [RowD]
  | d :: r, b, o, sz, hd => by
    simp only [RowD] at hd ⊢
    obtain ⟨⟨cs, h1, h2, h3⟩, h4⟩ := hd
    exact ⟨⟨cs, h1, RepD.mono h d _ h2, h3.mono h⟩, RowD.mono h r _ _ _ h4⟩
end

theorem RepV.mono {F F' : Froz} (h : F.le F') {d : Dat} {v : Value} (hd : RepV F d v) : RepV F' d v := ⟨RepD.mono h _ _ hd.1, hd.2⟩

theorem AggD.length {F : Froz} : ∀ {l : List Dat} {cs : List Value}, AggD F l cs → cs.length = l.length
  | [], cs, h => by simp only [AggD] at h; simp [h]
  | d :: r, cs, h => by
    simp only [AggD] at h
    obtain ⟨c, cs', rfl, _, _, h4⟩ := h
    simp [h4.length]

theorem RepD.length {F : Froz} {d : Dat} {cs : List Value} (h : RepD F d cs) : cs.length = d.width := by
  cases d with
  | agg l => simp only [RepD] at h; simpa [Dat.width] using h.length
  | sl l => simp only [RepD] at h; obtain ⟨a, cap, rfl, _⟩ := h; simp [Dat.width]
  | _ => simp only [RepD] at h; subst h; simp [Dat.width]

/-- a leaf is one cell, and not a struct's value -/
theorem RepD.leaf {F : Froz} {d : Dat} {cs : List Value} (h : RepD F d cs) (hd : d.isAgg = false) : ∃ c, cs = [c] ∧ c.oneCell' = true ∧ isAggV c = false := by
  cases d with
  | agg l => simp at hd
  | sl l => simp only [RepD] at h; obtain ⟨a, cap, rfl, _⟩ := h; exact ⟨_, rfl, rfl, rfl⟩
  | _ => simp only [RepD] at h; subst h; exact ⟨_, rfl, rfl, rfl⟩

theorem AggD.one {F : Froz} : ∀ {l : List Dat} {cs : List Value}, AggD F l cs → ∀ c ∈ cs, c.oneCell' = true
  | [], cs, h => by simp only [AggD] at h; simp [h]
  | d :: r, cs, h => by
    simp only [AggD] at h
    obtain ⟨c, cs', rfl, h2, h3, h4⟩ := h
    intro x hx
    obtain ⟨c', hc, h1, _⟩ := h3.leaf h2
    cases hx with
    | head => simp at hc; exact hc ▸ h1
    | tail _ hx => exact h4.one x hx

theorem RepD.one {F : Froz} {d : Dat} {cs : List Value} (h : RepD F d cs) : ∀ c ∈ cs, c.oneCell' = true := by
  cases hd : d.isAgg with
  | true =>
    cases d with
    | agg l => simp only [RepD] at h; exact h.one
    | _ => simp at hd
  | false =>
    obtain ⟨c, rfl, h1, _⟩ := h.leaf hd
    simpa using h1

theorem cells_of_not_agg {v : Value} (h : isAggV v = false) : v.cells = #[v] := by cases v <;> simp_all [isAggV, Value.cells]

/-- a leaf's value -/
theorem repV_leaf {F : Froz} {d : Dat} {c : Value} (hd : d.isAgg = false) (h : RepD F d [c]) : RepV F d c := by
  obtain ⟨c', hc, _, h2⟩ := h.leaf hd
  simp at hc
  subst hc
  exact ⟨by rw [cells_of_not_agg h2]; exact h, by rw [h2, hd]⟩

theorem RepV.cell {F : Froz} {d : Dat} {v : Value} (h : RepV F d v) (hd : d.isAgg = false) : RepD F d [v] := by
  obtain ⟨h1, h2⟩ := h
  rw [hd] at h2
  rw [cells_of_not_agg h2] at h1
  exact h1

theorem RepV.agg {F : Froz} {l : List Dat} {v : Value} (h : RepV F (.agg l) v) : ∃ cs, v = .agg cs ∧ AggD F l cs.toList := by
  obtain ⟨h1, h2⟩ := h
  cases v <;> simp [isAggV, Dat.isAgg] at h2
  case agg cs => exact ⟨cs, rfl, by simpa [RepD, Value.cells] using h1⟩

theorem repV_agg {F : Froz} {l : List Dat} {cs : Array Value} (h : AggD F l cs.toList) : RepV F (.agg l) (.agg cs) :=
  ⟨by simpa [RepD, Value.cells] using h, rfl⟩

/-- the cells of a datum, one by one -/
theorem RepD.cellsAgg {F : Froz} {d : Dat} {cs : List Value} (h : RepD F d cs) : AggD F d.cells cs := by
  cases hd : d.isAgg with
  | true =>
    cases d with
    | agg l => simpa [RepD] using h
    | _ => simp at hd
  | false =>
    obtain ⟨c, rfl, h1, _⟩ := h.leaf hd
    have : d.cells = [d] := by cases d <;> simp_all
    rw [this]
    simp only [AggD]
    exact ⟨c, [], rfl, hd, h, rfl⟩

theorem AggD.get {F : Froz} : ∀ {l : List Dat} {cs : List Value}, AggD F l cs → ∀ {i : Nat} {d : Dat}, l[i]? = some d → ∃ c, cs[i]? = some c ∧ d.isAgg = false ∧ RepD F d [c]
  | [], cs, h, i, d, hi => by simp at hi
  | x :: r, cs, h, i, d, hi => by
    simp only [AggD] at h
    obtain ⟨c, cs', rfl, h2, h3, h4⟩ := h
    cases i with
    | zero => simp at hi; subst hi; exact ⟨c, rfl, h2, h3⟩
    | succ i => simp at hi; simpa using h4.get hi

theorem AggD.take {F : Froz} : ∀ {l : List Dat} {cs : List Value}, AggD F l cs → ∀ (n : Nat), AggD F (l.take n) (cs.take n)
  | [], cs, h, n => by simp only [AggD] at h; subst h; simp [AggD]
  | x :: r, cs, h, 0 => by simp [AggD]
  | x :: r, cs, h, n + 1 => by
    simp only [AggD] at h
    obtain ⟨c, cs', rfl, h2, h3, h4⟩ := h
    simp only [List.take_succ_cons, AggD]
    exact ⟨c, cs'.take n, rfl, h2, h3, h4.take n⟩

theorem AggD.drop {F : Froz} : ∀ {l : List Dat} {cs : List Value}, AggD F l cs → ∀ (n : Nat), AggD F (l.drop n) (cs.drop n)
  | [], cs, h, n => by simp only [AggD] at h; subst h; simp [AggD]
  | x :: r, cs, h, 0 => by simpa using h
  | x :: r, cs, h, n + 1 => by
    simp only [AggD] at h
    obtain ⟨c, cs', rfl, h2, h3, h4⟩ := h
    simpa using h4.drop n

theorem AggD.append {F : Froz} : ∀ {l l' : List Dat} {cs cs' : List Value}, AggD F l cs → AggD F l' cs' → AggD F (l ++ l') (cs ++ cs')
  | [], l', cs, cs', h, h' => by simp only [AggD] at h; subst h; simpa using h'
  | x :: r, l', cs, cs', h, h' => by
    simp only [AggD] at h
    obtain ⟨c, cs'', rfl, h2, h3, h4⟩ := h
    simp only [List.cons_append, AggD]
    exact ⟨c, cs'' ++ cs', rfl, h2, h3, h4.append h'⟩

theorem RowD.get {F : Froz} : ∀ {l : List Dat} {b o sz : Nat}, RowD F l b o sz → ∀ {i : Nat} {d : Dat}, l[i]? = some d →
    ∃ cs, cs.length = sz ∧ RepD F d cs ∧ cellsAt F b (o + i * sz) cs
  | [], b, o, sz, h, i, d, hi => by simp at hi
  | x :: r, b, o, sz, h, i, d, hi => by
    simp only [RowD] at h
    cases i with
    | zero => simp at hi; subst hi; simpa using h.1
    | succ i =>
      simp at hi
      obtain ⟨cs, h1, h2, h3⟩ := h.2.get hi
      refine ⟨cs, h1, h2, ?_⟩
      rwa [show o + (i + 1) * sz = o + sz + i * sz by rw [Nat.add_mul]; omega]

theorem rowD_of {F : Froz} : ∀ {l : List Dat} {b o sz : Nat}, (∀ (i : Nat) (d : Dat), l[i]? = some d → ∃ cs, cs.length = sz ∧ RepD F d cs ∧ cellsAt F b (o + i * sz) cs) → RowD F l b o sz
  | [], b, o, sz, h => by simp [RowD]
  | x :: r, b, o, sz, h => by
    simp only [RowD]
    refine ⟨by simpa using h 0 x rfl, rowD_of fun i d hi => ?_⟩
    obtain ⟨cs, h1, h2, h3⟩ := h (i + 1) d (by simpa using hi)
    refine ⟨cs, h1, h2, ?_⟩
    rwa [show o + sz + i * sz = o + (i + 1) * sz by rw [Nat.add_mul]; omega]

theorem RowD.width {F : Froz} {l : List Dat} {b o sz : Nat} (h : RowD F l b o sz) : ∀ d ∈ l, d.width = sz := by
  intro d hd
  obtain ⟨i, hi⟩ := List.getElem?_of_mem hd
  obtain ⟨cs, h1, h2, _⟩ := h.get hi
  rw [← h2.length, h1]

/-! ## Values -/

/-- where an object's cells lie: n cells of block b from o on -/
structure Loc where
  b : Nat
  o : Nat
  n : Nat

structure Ctx where
  w : World
  F : Froz
  μ : Id → Loc
  ρ : Look

def boxAt (C : Ctx) (id : Id) : Option Loc :=
  match C.ρ id with
  | some (.box _) => some (C.μ id)
  | _ => none

structure ArrAt where
  ver : Nat
  sz : Nat
  n : Nat
  L : Loc

def arrAt (C : Ctx) (id : Id) : Option ArrAt :=
  match C.ρ id with
  | some (.arr sz ver _ es) => some ⟨ver, sz, es.length, C.μ id⟩
  | some (.rarr ver es) => some ⟨ver, 1, es.length, C.μ id⟩
  | _ => none

mutual
def RepA (C : Ctx) : AVal → Value → Prop
  | .dat d, v => RepV C.F d v
  | .nils, v => v = .slice none 0 0
  | .emp t, v => ∃ a cap, v = .slice a 0 cap ∧ a.isNone = t
  | .nilp, v => v = .pointer none
  | .ref id off, v => ∃ L, boxAt C id = some L ∧ v = .pointer (some ⟨L.b, L.o + off, none⟩)
  | .eref id ver i off, v => ∃ A a, arrAt C id = some A ∧ ver ≤ A.ver ∧ v = .pointer (some a) ∧ (ver = A.ver → i < A.n ∧ a = ⟨A.L.b, A.L.o + i * A.sz + off, none⟩)
  | .rsl id ver sz off len, v => ∃ A a cap, arrAt C id = some A ∧ ver ≤ A.ver ∧ v = .slice a len cap ∧ len ≤ cap ∧ (0 < cap → a.isSome = true) ∧
      (ver = A.ver → sz = A.sz ∧ off + len ≤ A.n ∧ A.L.n = (off + cap) * sz ∧ (0 < cap → a = some ⟨A.L.b, A.L.o + off * sz, none⟩))
  | .fp l, v => ∃ b o cs, v = .pointer (some ⟨b, o, none⟩) ∧ AggD C.F l cs ∧ cellsAt C.F b o cs
  | .lits l, v => ∃ b o cap cs, v = .slice (some ⟨b, o, none⟩) l.length cap ∧ l.length ≤ cap ∧ RepL C l cs ∧ cellsAt C.F b o cs ∧ l.all AVal.leaf = true ∧ ∀ c ∈ cs, c.oneCell' = true
  | .agg l, v => ∃ cs : Array Value, v = .agg cs ∧ RepL C l cs.toList ∧ l.all AVal.leaf = true ∧ ∀ c ∈ cs, c.oneCell' = true
  | .tup l, v => ∃ cs : Array Value, v = .tuple cs ∧ RepL C l cs.toList
  | .fn f l, v => ∃ cs : Array Value, v = .func (.func f) #[] cs ∧ RepL C l cs.toList
  | .undef, _ => True
def RepL (C : Ctx) : List AVal → List Value → Prop
  | [], cs => cs = []
  | a :: r, cs => ∃ c cs', cs = c :: cs' ∧ RepA C a c ∧ RepL C r cs'
end

/-- what the objects under C are, they are under C' too, by the names that f gives -/
structure Ext (f : Id → Id) (D : Id → Prop) (C C' : Ctx) : Prop where
  F : C.F.le C'.F
  box : ∀ id L, D id → boxAt C id = some L → boxAt C' (f id) = some L
  arr : ∀ id A, D id → arrAt C id = some A → ∃ A', arrAt C' (f id) = some A' ∧ A.ver ≤ A'.ver ∧ (A.ver = A'.ver → A'.sz = A.sz ∧ A'.L = A.L ∧ A.n ≤ A'.n)

mutual
theorem RepA.ext {f : Id → Id} {D : Id → Prop} {C C' : Ctx} (h : Ext f D C C') : ∀ (a : AVal) (v : Value), (∀ id ∈ a.ids, D id) → RepA C a v → RepA C' (a.ren f) v
  | .dat d, v, hi, hr => by simp only [RepA, AVal.ren] at hr ⊢; exact hr.mono h.F
  | .nils, v, hi, hr => by simpa only [RepA, AVal.ren] using hr
  | .emp t, v, hi, hr => by simpa only [RepA, AVal.ren] using hr
  | .nilp, v, hi, hr => by simpa only [RepA, AVal.ren] using hr
  | .undef, v, hi, hr => by simp only [RepA, AVal.ren]
  | .ref id off, v, hi, hr => by
    simp only [RepA, AVal.ren] at hr ⊢
    obtain ⟨L, h1, h2⟩ := hr
    exact ⟨L, h.box id L (hi id (by simp [AVal.ids])) h1, h2⟩
  | .eref id ver i off, v, hi, hr => by
    simp only [RepA, AVal.ren] at hr ⊢
    obtain ⟨A, a, h1, h2, h3, h4⟩ := hr
    obtain ⟨A', h5, h6, h7⟩ := h.arr id A (hi id (by simp [AVal.ids])) h1
    refine ⟨A', a, h5, Nat.le_trans h2 h6, h3, fun e => ?_⟩
    have e1 : A.ver = A'.ver := by omega
    obtain ⟨h8, h9, h10⟩ := h7 e1
    obtain ⟨h11, h12⟩ := h4 (by omega)
    rw [h8, h9]
    exact ⟨by omega, h12⟩
  | .rsl id ver sz off len, v, hi, hr => by
    simp only [RepA, AVal.ren] at hr ⊢
    obtain ⟨A, a, cap, h1, h2, h3, h3', h3'', h4⟩ := hr
    obtain ⟨A', h5, h6, h7⟩ := h.arr id A (hi id (by simp [AVal.ids])) h1
    refine ⟨A', a, cap, h5, Nat.le_trans h2 h6, h3, h3', h3'', fun e => ?_⟩
    have e1 : A.ver = A'.ver := by omega
    obtain ⟨h8, h9, h10⟩ := h7 e1
    obtain ⟨h11, h12, h13, h14⟩ := h4 (by omega)
    rw [h8, h9]
    exact ⟨h11, by omega, h13, h14⟩
  | .fp l, v, hi, hr => by
    simp only [RepA, AVal.ren] at hr ⊢
    obtain ⟨b, o, cs, h1, h2, h3⟩ := hr
    exact ⟨b, o, cs, h1, AggD.mono h.F _ _ h2, h3.mono h.F⟩
  | .lits l, v, hi, hr => by
    simp only [RepA, AVal.ren] at hr ⊢
    obtain ⟨b, o, cap, cs, h1, h2, h3, h4, h5, h6⟩ := hr
    have := renL_props f l
    exact ⟨b, o, cap, cs, by rw [this.1]; exact h1, by rw [this.1]; exact h2, RepL.ext h l cs (by simpa [AVal.ids] using hi) h3, h4.mono h.F, by rw [this.2]; exact h5, h6⟩
  | .agg l, v, hi, hr => by
    simp only [RepA, AVal.ren] at hr ⊢
    obtain ⟨cs, h1, h3, h5, h6⟩ := hr
    have := renL_props f l
    exact ⟨cs, h1, RepL.ext h l _ (by simpa [AVal.ids] using hi) h3, by rw [this.2]; exact h5, h6⟩
  | .tup l, v, hi, hr => by
    simp only [RepA, AVal.ren] at hr ⊢
    obtain ⟨cs, h1, h3⟩ := hr
    exact ⟨cs, h1, RepL.ext h l _ (by simpa [AVal.ids] using hi) h3⟩
  | .fn g l, v, hi, hr => by
    simp only [RepA, AVal.ren] at hr ⊢
    obtain ⟨cs, h1, h3⟩ := hr
    exact ⟨cs, h1, RepL.ext h l _ (by simpa [AVal.ids] using hi) h3⟩
theorem RepL.ext {f : Id → Id} {D : Id → Prop} {C C' : Ctx} (h : Ext f D C C') : ∀ (l : List AVal) (cs : List Value), (∀ id ∈ AVal.idsL l, D id) → RepL C l cs → RepL C' (AVal.renL f l) cs
  | [], cs, hi, hr => by simpa only [RepL, AVal.renL] using hr
  | a :: r, cs, hi, hr => by
    simp only [RepL, AVal.renL] at hr ⊢
    obtain ⟨c, cs', h1, h2, h3⟩ := hr
    simp only [AVal.idsL, List.mem_append] at hi
    exact ⟨c, cs', h1, RepA.ext h a c (fun id hid => hi id (.inl hid)) h2, RepL.ext h r cs' (fun id hid => hi id (.inr hid)) h3⟩
theorem renL_props (f : Id → Id) : ∀ (l : List AVal), (AVal.renL f l).length = l.length ∧ (AVal.renL f l).all AVal.leaf = l.all AVal.leaf
  | [] => by simp [AVal.renL]
  | a :: r => by
    have := renL_props f r
    simp only [AVal.renL, List.length_cons, this.1, List.all_cons, this.2, true_and]
    cases a <;> simp [AVal.ren, AVal.leaf]
end

mutual
theorem ren_id : ∀ (a : AVal), a.ren (fun i => i) = a
  | .dat d => rfl
  | .nils => rfl
  | .emp t => rfl
  | .nilp => rfl
  | .undef => rfl
  | .ref id off => rfl
  | .eref id ver i off => rfl
  | .rsl id ver sz off len => rfl
  | .fp l => rfl
  | .lits l => by simp [AVal.ren, renL_id l]
  | .agg l => by simp [AVal.ren, renL_id l]
  | .tup l => by simp [AVal.ren, renL_id l]
  | .fn g l => by simp [AVal.ren, renL_id l]
theorem renL_id : ∀ (l : List AVal), AVal.renL (fun i => i) l = l
  | [] => rfl
  | a :: r => by simp [AVal.renL, ren_id a, renL_id r]
end

/-- the objects stay under their names -/
abbrev Grow (C C' : Ctx) : Prop := Ext (fun i => i) (fun _ => True) C C'

theorem RepA.grow {C C' : Ctx} (h : Grow C C') {a : AVal} {v : Value} (hr : RepA C a v) : RepA C' a v := by
  have := RepA.ext h a v (fun _ _ => trivial) hr
  rwa [ren_id] at this

theorem RepL.grow {C C' : Ctx} (h : Grow C C') {l : List AVal} {cs : List Value} (hr : RepL C l cs) : RepL C' l cs := by
  have := RepL.ext h l cs (fun _ _ => trivial) hr
  rwa [renL_id] at this

theorem Grow.refl (C : Ctx) : Grow C C := ⟨fun _ _ _ h => h, fun _ _ _ h => h, fun _ A _ h => ⟨A, h, Nat.le_refl _, fun _ => ⟨rfl, rfl, Nat.le_refl _⟩⟩⟩

theorem Grow.trans {C C' C'' : Ctx} (h : Grow C C') (h' : Grow C' C'') : Grow C C'' := by
  refine ⟨fun b o v hv => h'.F _ _ _ (h.F _ _ _ hv), fun id L _ hb => h'.box id L trivial (h.box id L trivial hb), fun id A _ ha => ?_⟩
  obtain ⟨A', h1, h2, h3⟩ := h.arr id A trivial ha
  obtain ⟨A'', h4, h5, h6⟩ := h'.arr id A' trivial h1
  refine ⟨A'', h4, Nat.le_trans h2 h5, fun e => ?_⟩
  obtain ⟨a1, a2, a3⟩ := h3 (by omega)
  obtain ⟨b1, b2, b3⟩ := h6 (by omega)
  exact ⟨by rw [b1, a1], by rw [b2, a2], by omega⟩

theorem RepL.length {C : Ctx} : ∀ {l : List AVal} {cs : List Value}, RepL C l cs → cs.length = l.length
  | [], cs, h => by simp only [RepL] at h; simp [h]
  | a :: r, cs, h => by
    simp only [RepL] at h
    obtain ⟨c, cs', rfl, _, h3⟩ := h
    simp [h3.length]

theorem RepL.get {C : Ctx} : ∀ {l : List AVal} {cs : List Value}, RepL C l cs → ∀ {i : Nat} {a : AVal}, l[i]? = some a → ∃ c, cs[i]? = some c ∧ RepA C a c
  | [], cs, h, i, a, hi => by simp at hi
  | x :: r, cs, h, i, a, hi => by
    simp only [RepL] at h
    obtain ⟨c, cs', rfl, h2, h3⟩ := h
    cases i with
    | zero => simp at hi; subst hi; exact ⟨c, rfl, h2⟩
    | succ i => simp at hi; simpa using h3.get hi

theorem repL_of {C : Ctx} : ∀ {l : List AVal} {cs : List Value}, cs.length = l.length → (∀ (i : Nat) (a : AVal) (c : Value), l[i]? = some a → cs[i]? = some c → RepA C a c) → RepL C l cs
  | [], cs, hl, h => by simp only [RepL]; simpa using hl
  | x :: r, [], hl, h => by simp at hl
  | x :: r, c :: cs, hl, h => by
    simp only [RepL]
    exact ⟨c, cs, rfl, h 0 x c rfl rfl, repL_of (by simpa using hl) fun i a c hi hc => h (i + 1) a c (by simpa using hi) (by simpa using hc)⟩

theorem RepL.append {C : Ctx} {l l' : List AVal} {cs cs' : List Value} (h : RepL C l cs) (h' : RepL C l' cs') : RepL C (l ++ l') (cs ++ cs') := by
  induction l generalizing cs with
  | nil => simp only [RepL] at h; subst h; simpa using h'
  | cons a r ih =>
    simp only [RepL] at h
    obtain ⟨c, cs'', rfl, h2, h3⟩ := h
    simp only [List.cons_append, RepL]
    exact ⟨c, cs'' ++ cs', rfl, h2, ih h3⟩

theorem RepL.take {C : Ctx} {l : List AVal} {cs : List Value} (h : RepL C l cs) (n : Nat) : RepL C (l.take n) (cs.take n) := by
  refine repL_of (by simp [h.length]) fun i a c hi hc => ?_
  rw [List.getElem?_take] at hi hc
  split at hi
  · rename_i hlt
    rw [if_pos hlt] at hc
    obtain ⟨c', h1, h2⟩ := h.get hi
    rw [hc] at h1
    cases h1
    exact h2
  · cases hi

theorem RepL.drop {C : Ctx} {l : List AVal} {cs : List Value} (h : RepL C l cs) (n : Nat) : RepL C (l.drop n) (cs.drop n) := by
  refine repL_of (by simp [h.length]) fun i a c hi hc => ?_
  rw [List.getElem?_drop] at hi hc
  obtain ⟨c', h1, h2⟩ := h.get hi
  rw [hc] at h1
  cases h1
  exact h2

/-- leaves that are data, as a row of values -/
theorem repL_dat {C : Ctx} : ∀ {l : List Dat} {cs : List Value}, AggD C.F l cs → RepL C (l.map .dat) cs
  | [], cs, h => by simpa [AggD, RepL] using h
  | d :: r, cs, h => by
    simp only [AggD] at h
    obtain ⟨c, cs', rfl, h2, h3, h4⟩ := h
    simp only [List.map_cons, RepL, RepA]
    exact ⟨c, cs', rfl, repV_leaf h2 h3, repL_dat h4⟩

/-- a leaf is one cell -/
theorem RepA.leaf {C : Ctx} {a : AVal} {v : Value} (h : RepA C a v) (ha : a.leaf = true) : v.oneCell' = true ∧ isAggV v = false := by
  cases a with
  | dat d =>
    simp only [RepA] at h
    simp [AVal.leaf] at ha
    obtain ⟨c, h1, h2, h3⟩ := (h.cell ha).leaf ha
    simp at h1
    subst h1
    exact ⟨h2, h3⟩
  | nils => simp only [RepA] at h; subst h; exact ⟨rfl, rfl⟩
  | emp t => simp only [RepA] at h; obtain ⟨a, cap, rfl, _⟩ := h; exact ⟨rfl, rfl⟩
  | nilp => simp only [RepA] at h; subst h; exact ⟨rfl, rfl⟩
  | ref id off => simp only [RepA] at h; obtain ⟨L, _, rfl⟩ := h; exact ⟨rfl, rfl⟩
  | eref id ver i off => simp only [RepA] at h; obtain ⟨A, a, _, _, rfl, _⟩ := h; exact ⟨rfl, rfl⟩
  | rsl id ver sz off len => simp only [RepA] at h; obtain ⟨A, a, cap, _, _, rfl, _⟩ := h; exact ⟨rfl, rfl⟩
  | fp l => simp only [RepA] at h; obtain ⟨b, o, cs, rfl, _⟩ := h; exact ⟨rfl, rfl⟩
  | lits l => simp only [RepA] at h; obtain ⟨b, o, cap, cs, rfl, _⟩ := h; exact ⟨rfl, rfl⟩
  | fn f l => simp only [RepA] at h; obtain ⟨cs, rfl, _⟩ := h; exact ⟨rfl, rfl⟩
  | agg l => simp [AVal.leaf] at ha
  | tup l => simp [AVal.leaf] at ha
  | undef => simp [AVal.leaf] at ha

/-- the cells of a value -/
theorem RepA.cells {C : Ctx} {a : AVal} {v : Value} (h : RepA C a v) (ha : a.cells.all AVal.leaf = true) : RepL C a.cells v.cells.toList ∧ ∀ c ∈ v.cells.toList, c.oneCell' = true := by
  have single : a.cells = [a] → RepL C a.cells v.cells.toList ∧ ∀ c ∈ v.cells.toList, c.oneCell' = true := by
    intro e
    rw [e] at ha ⊢
    obtain ⟨h1, h2⟩ := h.leaf (by simpa using ha)
    rw [cells_of_not_agg h2]
    simp only [RepL]
    exact ⟨⟨v, [], rfl, h, rfl⟩, by simpa using h1⟩
  cases a with
  | dat d =>
    cases d with
    | agg l =>
      simp only [RepA] at h
      obtain ⟨cs, rfl, hc⟩ := h.agg
      exact ⟨repL_dat hc, by simpa [Value.cells] using hc.one⟩
    | _ => exact single rfl
  | agg l =>
    simp only [RepA] at h
    obtain ⟨cs, rfl, h1, h2, h3⟩ := h
    exact ⟨by simpa [Value.cells] using h1, by simpa [Value.cells] using h3⟩
  | _ => exact single rfl

end Go.Am
