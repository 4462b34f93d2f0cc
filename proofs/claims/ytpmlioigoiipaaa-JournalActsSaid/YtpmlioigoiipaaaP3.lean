/- Parts of the proofs of the journal's statements, joined: AmRep AmInv AmOps AmMem AmMake AmWrite. -/
import Derived.Test.YtpmlioigoiipaaaP2
import Derived.Laws.World
import Derived.Laws.Sem
import Derived.Laws.IdiomCopy
import Derived.ChangeFn
import Derived.Laws.Cells
import Derived.Laws.Append
import Derived.Laws.Strings
import Derived.Laws.AppendOwn
import Derived.Laws.BytesArg
import Derived.IntWalk

/- The abstract machine: what a value, a cell and an object of the model must be to stand for one of its own; and that this stays so while the world grows. -/
set_option linter.unusedVariables false
set_option linter.unusedSimpArgs false
namespace Go.Am

/-! ## Frozen cells -/

/-- the frozen cells, with what they hold for good -/
abbrev Froz := Nat → Nat → Option Value

def cellsAt (F : Froz) (b o : Nat) (cs : List Value) : Prop := ∀ (j : Nat) (v : Value), cs[j]? = some v → F b (o + j) = some v

def Froz.le (F F' : Froz) : Prop := ∀ b o v, F b o = some v → F' b o = some v

theorem cellsAt.mono {F F' : Froz} (h : F.le F') {b o : Nat} {cs : List Value} (hc : cellsAt F b o cs) : cellsAt F' b o cs :=
  fun j v hj => h _ _ _ (hc j v hj)

mutual
def RepD (F : Froz) : Dat → List Value → Prop
  | .int k n, cs => cs = [.int k n]
  | .bool b, cs => cs = [.bool b]
  | .str s, cs => cs = [.string ⟨s.toArray⟩]
  | .sl l, cs => ∃ a cap, cs = [.slice a l.length cap] ∧ l.length ≤ cap ∧ (l = [] ∨ ∃ b o sz, a = some ⟨b, o, none⟩ ∧ RowD F l b o sz)
  | .agg l, cs => AggD F l cs
def AggD (F : Froz) : List Dat → List Value → Prop
  | [], cs => cs = []
  | d :: r, cs => ∃ c cs', cs = c :: cs' ∧ d.isAgg = false ∧ RepD F d [c] ∧ AggD F r cs'
def RowD (F : Froz) : List Dat → Nat → Nat → Nat → Prop
  | [], _, _, _ => True
  | d :: r, b, o, sz => (∃ cs, cs.length = sz ∧ RepD F d cs ∧ cellsAt F b o cs) ∧ RowD F r b (o + sz) sz
end

def isAggV : Value → Bool
  | .agg _ => true
  | _ => false

def RepV (F : Froz) (d : Dat) (v : Value) : Prop := RepD F d v.cells.toList ∧ isAggV v = d.isAgg

mutual
theorem RepD.mono {F F' : Froz} (h : F.le F') : ∀ (d : Dat) (cs : List Value), RepD F d cs → RepD F' d cs
  | .int k n, cs, hd => by simpa [RepD] using hd
  | .bool b, cs, hd => by simpa [RepD] using hd
  | .str s, cs, hd => by simpa [RepD] using hd
  | .sl l, cs, hd => by
    simp only [RepD] at hd ⊢
    obtain ⟨a, cap, h1, h2, h3⟩ := hd
    refine ⟨a, cap, h1, h2, ?_⟩
    rcases h3 with h3 | ⟨b, o, sz, ha, hr⟩
    · exact .inl h3
    · exact .inr ⟨b, o, sz, ha, RowD.mono h l b o sz hr⟩
  | .agg l, cs, hd => by
    simp only [RepD] at hd ⊢
    exact AggD.mono h l cs hd
theorem AggD.mono {F F' : Froz} (h : F.le F') : ∀ (l : List Dat) (cs : List Value), AggD F l cs → AggD F' l cs
  | [], cs, hd => by simpa [AggD] using hd
  | d :: r, cs, hd => by
    simp only [AggD] at hd ⊢
    obtain ⟨c, cs', h1, h2, h3, h4⟩ := hd
    exact ⟨c, cs', h1, h2, RepD.mono h d _ h3, AggD.mono h r _ h4⟩
theorem RowD.mono {F F' : Froz} (h : F.le F') : ∀ (l : List Dat) (b o sz : Nat), RowD F l b o sz → RowD F' l b o sz
  | [], b, o, sz, hd => by simp [RowD]
  | d :: r, b, o, sz, hd => by
    simp only [RowD] at hd ⊢
    obtain ⟨⟨cs, h1, h2, h3⟩, h4⟩ := hd
    exact ⟨⟨cs, h1, RepD.mono h d _ h2, h3.mono h⟩, RowD.mono h r _ _ _ h4⟩
end

theorem RepV.mono {F F' : Froz} (h : F.le F') {d : Dat} {v : Value} (hd : RepV F d v) : RepV F' d v := ⟨RepD.mono h _ _ hd.1, hd.2⟩

theorem AggD.length {F : Froz} : ∀ {l : List Dat} {cs : List Value}, AggD F l cs → cs.length = l.length
  | [], cs, h => by simp only [AggD] at h; simp [h]
  | d :: r, cs, h => by
    simp only [AggD] at h
    obtain ⟨c, cs', rfl, _, _, h4⟩ := h
    simp [h4.length]

theorem RepD.length {F : Froz} {d : Dat} {cs : List Value} (h : RepD F d cs) : cs.length = d.width := by
  cases d with
  | agg l => simp only [RepD] at h; simpa [Dat.width] using h.length
  | sl l => simp only [RepD] at h; obtain ⟨a, cap, rfl, _⟩ := h; simp [Dat.width]
  | _ => simp only [RepD] at h; subst h; simp [Dat.width]

/-- a leaf is one cell, and not a struct's value -/
theorem RepD.leaf {F : Froz} {d : Dat} {cs : List Value} (h : RepD F d cs) (hd : d.isAgg = false) : ∃ c, cs = [c] ∧ c.oneCell' = true ∧ isAggV c = false := by
  cases d with
  | agg l => simp at hd
  | sl l => simp only [RepD] at h; obtain ⟨a, cap, rfl, _⟩ := h; exact ⟨_, rfl, rfl, rfl⟩
  | _ => simp only [RepD] at h; subst h; exact ⟨_, rfl, rfl, rfl⟩

theorem AggD.one {F : Froz} : ∀ {l : List Dat} {cs : List Value}, AggD F l cs → ∀ c ∈ cs, c.oneCell' = true
  | [], cs, h => by simp only [AggD] at h; simp [h]
  | d :: r, cs, h => by
    simp only [AggD] at h
    obtain ⟨c, cs', rfl, h2, h3, h4⟩ := h
    intro x hx
    obtain ⟨c', hc, h1, _⟩ := h3.leaf h2
    cases hx with
    | head => simp at hc; exact hc ▸ h1
    | tail _ hx => exact h4.one x hx

theorem RepD.one {F : Froz} {d : Dat} {cs : List Value} (h : RepD F d cs) : ∀ c ∈ cs, c.oneCell' = true := by
  cases hd : d.isAgg with
  | true =>
    cases d with
    | agg l => simp only [RepD] at h; exact h.one
    | _ => simp at hd
  | false =>
    obtain ⟨c, rfl, h1, _⟩ := h.leaf hd
    simpa using h1

theorem cells_of_not_agg {v : Value} (h : isAggV v = false) : v.cells = #[v] := by cases v <;> simp_all [isAggV, Value.cells]

/-- a leaf's value -/
theorem repV_leaf {F : Froz} {d : Dat} {c : Value} (hd : d.isAgg = false) (h : RepD F d [c]) : RepV F d c := by
  obtain ⟨c', hc, _, h2⟩ := h.leaf hd
  simp at hc
  subst hc
  exact ⟨by rw [cells_of_not_agg h2]; exact h, by rw [h2, hd]⟩

theorem RepV.cell {F : Froz} {d : Dat} {v : Value} (h : RepV F d v) (hd : d.isAgg = false) : RepD F d [v] := by
  obtain ⟨h1, h2⟩ := h
  rw [hd] at h2
  rw [cells_of_not_agg h2] at h1
  exact h1

theorem RepV.agg {F : Froz} {l : List Dat} {v : Value} (h : RepV F (.agg l) v) : ∃ cs, v = .agg cs ∧ AggD F l cs.toList := by
  obtain ⟨h1, h2⟩ := h
  cases v <;> simp [isAggV, Dat.isAgg] at h2
  case agg cs => exact ⟨cs, rfl, by simpa [RepD, Value.cells] using h1⟩

theorem repV_agg {F : Froz} {l : List Dat} {cs : Array Value} (h : AggD F l cs.toList) : RepV F (.agg l) (.agg cs) :=
  ⟨by simpa [RepD, Value.cells] using h, rfl⟩

/-- the cells of a datum, one by one -/
theorem RepD.cellsAgg {F : Froz} {d : Dat} {cs : List Value} (h : RepD F d cs) : AggD F d.cells cs := by
  cases hd : d.isAgg with
  | true =>
    cases d with
    | agg l => simpa [RepD] using h
    | _ => simp at hd
  | false =>
    obtain ⟨c, rfl, h1, _⟩ := h.leaf hd
    have : d.cells = [d] := by cases d <;> simp_all
    rw [this]
    simp only [AggD]
    exact ⟨c, [], rfl, hd, h, rfl⟩

theorem AggD.get {F : Froz} : ∀ {l : List Dat} {cs : List Value}, AggD F l cs → ∀ {i : Nat} {d : Dat}, l[i]? = some d → ∃ c, cs[i]? = some c ∧ d.isAgg = false ∧ RepD F d [c]
  | [], cs, h, i, d, hi => by simp at hi
  | x :: r, cs, h, i, d, hi => by
    simp only [AggD] at h
    obtain ⟨c, cs', rfl, h2, h3, h4⟩ := h
    cases i with
    | zero => simp at hi; subst hi; exact ⟨c, rfl, h2, h3⟩
    | succ i => simp at hi; simpa using h4.get hi

theorem AggD.take {F : Froz} : ∀ {l : List Dat} {cs : List Value}, AggD F l cs → ∀ (n : Nat), AggD F (l.take n) (cs.take n)
  | [], cs, h, n => by simp only [AggD] at h; subst h; simp [AggD]
  | x :: r, cs, h, 0 => by simp [AggD]
  | x :: r, cs, h, n + 1 => by
    simp only [AggD] at h
    obtain ⟨c, cs', rfl, h2, h3, h4⟩ := h
    simp only [List.take_succ_cons, AggD]
    exact ⟨c, cs'.take n, rfl, h2, h3, h4.take n⟩

theorem AggD.drop {F : Froz} : ∀ {l : List Dat} {cs : List Value}, AggD F l cs → ∀ (n : Nat), AggD F (l.drop n) (cs.drop n)
  | [], cs, h, n => by simp only [AggD] at h; subst h; simp [AggD]
  | x :: r, cs, h, 0 => by simpa using h
  | x :: r, cs, h, n + 1 => by
    simp only [AggD] at h
    obtain ⟨c, cs', rfl, h2, h3, h4⟩ := h
    simpa using h4.drop n

theorem AggD.append {F : Froz} : ∀ {l l' : List Dat} {cs cs' : List Value}, AggD F l cs → AggD F l' cs' → AggD F (l ++ l') (cs ++ cs')
  | [], l', cs, cs', h, h' => by simp only [AggD] at h; subst h; simpa using h'
  | x :: r, l', cs, cs', h, h' => by
    simp only [AggD] at h
    obtain ⟨c, cs'', rfl, h2, h3, h4⟩ := h
    simp only [List.cons_append, AggD]
    exact ⟨c, cs'' ++ cs', rfl, h2, h3, h4.append h'⟩

theorem RowD.get {F : Froz} : ∀ {l : List Dat} {b o sz : Nat}, RowD F l b o sz → ∀ {i : Nat} {d : Dat}, l[i]? = some d →
    ∃ cs, cs.length = sz ∧ RepD F d cs ∧ cellsAt F b (o + i * sz) cs
  | [], b, o, sz, h, i, d, hi => by simp at hi
  | x :: r, b, o, sz, h, i, d, hi => by
    simp only [RowD] at h
    cases i with
    | zero => simp at hi; subst hi; simpa using h.1
    | succ i =>
      simp at hi
      obtain ⟨cs, h1, h2, h3⟩ := h.2.get hi
      refine ⟨cs, h1, h2, ?_⟩
      rwa [show o + (i + 1) * sz = o + sz + i * sz by rw [Nat.add_mul]; omega]

theorem rowD_of {F : Froz} : ∀ {l : List Dat} {b o sz : Nat}, (∀ (i : Nat) (d : Dat), l[i]? = some d → ∃ cs, cs.length = sz ∧ RepD F d cs ∧ cellsAt F b (o + i * sz) cs) → RowD F l b o sz
  | [], b, o, sz, h => by simp [RowD]
  | x :: r, b, o, sz, h => by
    simp only [RowD]
    refine ⟨by simpa using h 0 x rfl, rowD_of fun i d hi => ?_⟩
    obtain ⟨cs, h1, h2, h3⟩ := h (i + 1) d (by simpa using hi)
    refine ⟨cs, h1, h2, ?_⟩
    rwa [show o + sz + i * sz = o + (i + 1) * sz by rw [Nat.add_mul]; omega]

theorem RowD.width {F : Froz} {l : List Dat} {b o sz : Nat} (h : RowD F l b o sz) : ∀ d ∈ l, d.width = sz := by
  intro d hd
  obtain ⟨i, hi⟩ := List.getElem?_of_mem hd
  obtain ⟨cs, h1, h2, _⟩ := h.get hi
  rw [← h2.length, h1]

/-! ## Values -/

/-- where an object's cells lie: n cells of block b from o on -/
structure Loc where
  b : Nat
  o : Nat
  n : Nat

structure Ctx where
  w : World
  F : Froz
  μ : Id → Loc
  ρ : Look

def boxAt (C : Ctx) (id : Id) : Option Loc :=
  match C.ρ id with
  | some (.box _) => some (C.μ id)
  | _ => none

structure ArrAt where
  ver : Nat
  sz : Nat
  n : Nat
  L : Loc

def arrAt (C : Ctx) (id : Id) : Option ArrAt :=
  match C.ρ id with
  | some (.arr sz ver _ es) => some ⟨ver, sz, es.length, C.μ id⟩
  | some (.rarr ver es) => some ⟨ver, 1, es.length, C.μ id⟩
  | _ => none

mutual
def RepA (C : Ctx) : AVal → Value → Prop
  | .dat d, v => RepV C.F d v
  | .nils, v => v = .slice none 0 0
  | .emp t, v => ∃ a cap, v = .slice a 0 cap ∧ a.isNone = t
  | .nilp, v => v = .pointer none
  | .ref id off, v => ∃ L, boxAt C id = some L ∧ v = .pointer (some ⟨L.b, L.o + off, none⟩)
  | .eref id ver i off, v => ∃ A a, arrAt C id = some A ∧ ver ≤ A.ver ∧ v = .pointer (some a) ∧ (ver = A.ver → i < A.n ∧ a = ⟨A.L.b, A.L.o + i * A.sz + off, none⟩)
  | .rsl id ver sz off len, v => ∃ A a cap, arrAt C id = some A ∧ ver ≤ A.ver ∧ v = .slice a len cap ∧ len ≤ cap ∧ (0 < cap → a.isSome = true) ∧
      (ver = A.ver → sz = A.sz ∧ off + len ≤ A.n ∧ A.L.n = (off + cap) * sz ∧ (0 < cap → a = some ⟨A.L.b, A.L.o + off * sz, none⟩))
  | .fp l, v => ∃ b o cs, v = .pointer (some ⟨b, o, none⟩) ∧ AggD C.F l cs ∧ cellsAt C.F b o cs
  | .lits l, v => ∃ b o cap cs, v = .slice (some ⟨b, o, none⟩) l.length cap ∧ l.length ≤ cap ∧ RepL C l cs ∧ cellsAt C.F b o cs ∧ l.all AVal.leaf = true ∧ ∀ c ∈ cs, c.oneCell' = true
  | .agg l, v => ∃ cs : Array Value, v = .agg cs ∧ RepL C l cs.toList ∧ l.all AVal.leaf = true ∧ ∀ c ∈ cs, c.oneCell' = true
  | .tup l, v => ∃ cs : Array Value, v = .tuple cs ∧ RepL C l cs.toList
  | .fn f l, v => ∃ cs : Array Value, v = .func (.func f) #[] cs ∧ RepL C l cs.toList
  | .undef, _ => True
def RepL (C : Ctx) : List AVal → List Value → Prop
  | [], cs => cs = []
  | a :: r, cs => ∃ c cs', cs = c :: cs' ∧ RepA C a c ∧ RepL C r cs'
end

/-- what the objects under C are, they are under C' too, by the names that f gives -/
structure Ext (f : Id → Id) (D : Id → Prop) (C C' : Ctx) : Prop where
  F : C.F.le C'.F
  box : ∀ id L, D id → boxAt C id = some L → boxAt C' (f id) = some L
  arr : ∀ id A, D id → arrAt C id = some A → ∃ A', arrAt C' (f id) = some A' ∧ A.ver ≤ A'.ver ∧ (A.ver = A'.ver → A'.sz = A.sz ∧ A'.L = A.L ∧ A.n ≤ A'.n)

mutual
theorem RepA.ext {f : Id → Id} {D : Id → Prop} {C C' : Ctx} (h : Ext f D C C') : ∀ (a : AVal) (v : Value), (∀ id ∈ a.ids, D id) → RepA C a v → RepA C' (a.ren f) v
  | .dat d, v, hi, hr => by simp only [RepA, AVal.ren] at hr ⊢; exact hr.mono h.F
  | .nils, v, hi, hr => by simpa only [RepA, AVal.ren] using hr
  | .emp t, v, hi, hr => by simpa only [RepA, AVal.ren] using hr
  | .nilp, v, hi, hr => by simpa only [RepA, AVal.ren] using hr
  | .undef, v, hi, hr => by simp only [RepA, AVal.ren]
  | .ref id off, v, hi, hr => by
    simp only [RepA, AVal.ren] at hr ⊢
    obtain ⟨L, h1, h2⟩ := hr
    exact ⟨L, h.box id L (hi id (by simp [AVal.ids])) h1, h2⟩
  | .eref id ver i off, v, hi, hr => by
    simp only [RepA, AVal.ren] at hr ⊢
    obtain ⟨A, a, h1, h2, h3, h4⟩ := hr
    obtain ⟨A', h5, h6, h7⟩ := h.arr id A (hi id (by simp [AVal.ids])) h1
    refine ⟨A', a, h5, Nat.le_trans h2 h6, h3, fun e => ?_⟩
    have e1 : A.ver = A'.ver := by omega
    obtain ⟨h8, h9, h10⟩ := h7 e1
    obtain ⟨h11, h12⟩ := h4 (by omega)
    rw [h8, h9]
    exact ⟨by omega, h12⟩
  | .rsl id ver sz off len, v, hi, hr => by
    simp only [RepA, AVal.ren] at hr ⊢
    obtain ⟨A, a, cap, h1, h2, h3, h3', h3'', h4⟩ := hr
    obtain ⟨A', h5, h6, h7⟩ := h.arr id A (hi id (by simp [AVal.ids])) h1
    refine ⟨A', a, cap, h5, Nat.le_trans h2 h6, h3, h3', h3'', fun e => ?_⟩
    have e1 : A.ver = A'.ver := by omega
    obtain ⟨h8, h9, h10⟩ := h7 e1
    obtain ⟨h11, h12, h13, h14⟩ := h4 (by omega)
    rw [h8, h9]
    exact ⟨h11, by omega, h13, h14⟩
  | .fp l, v, hi, hr => by
    simp only [RepA, AVal.ren] at hr ⊢
    obtain ⟨b, o, cs, h1, h2, h3⟩ := hr
    exact ⟨b, o, cs, h1, AggD.mono h.F _ _ h2, h3.mono h.F⟩
  | .lits l, v, hi, hr => by
    simp only [RepA, AVal.ren] at hr ⊢
    obtain ⟨b, o, cap, cs, h1, h2, h3, h4, h5, h6⟩ := hr
    have := renL_props f l
    exact ⟨b, o, cap, cs, by rw [this.1]; exact h1, by rw [this.1]; exact h2, RepL.ext h l cs (by simpa [AVal.ids] using hi) h3, h4.mono h.F, by rw [this.2]; exact h5, h6⟩
  | .agg l, v, hi, hr => by
    simp only [RepA, AVal.ren] at hr ⊢
    obtain ⟨cs, h1, h3, h5, h6⟩ := hr
    have := renL_props f l
    exact ⟨cs, h1, RepL.ext h l _ (by simpa [AVal.ids] using hi) h3, by rw [this.2]; exact h5, h6⟩
  | .tup l, v, hi, hr => by
    simp only [RepA, AVal.ren] at hr ⊢
    obtain ⟨cs, h1, h3⟩ := hr
    exact ⟨cs, h1, RepL.ext h l _ (by simpa [AVal.ids] using hi) h3⟩
  | .fn g l, v, hi, hr => by
    simp only [RepA, AVal.ren] at hr ⊢
    obtain ⟨cs, h1, h3⟩ := hr
    exact ⟨cs, h1, RepL.ext h l _ (by simpa [AVal.ids] using hi) h3⟩
theorem RepL.ext {f : Id → Id} {D : Id → Prop} {C C' : Ctx} (h : Ext f D C C') : ∀ (l : List AVal) (cs : List Value), (∀ id ∈ AVal.idsL l, D id) → RepL C l cs → RepL C' (AVal.renL f l) cs
  | [], cs, hi, hr => by simpa only [RepL, AVal.renL] using hr
  | a :: r, cs, hi, hr => by
    simp only [RepL, AVal.renL] at hr ⊢
    obtain ⟨c, cs', h1, h2, h3⟩ := hr
    simp only [AVal.idsL, List.mem_append] at hi
    exact ⟨c, cs', h1, RepA.ext h a c (fun id hid => hi id (.inl hid)) h2, RepL.ext h r cs' (fun id hid => hi id (.inr hid)) h3⟩
theorem renL_props (f : Id → Id) : ∀ (l : List AVal), (AVal.renL f l).length = l.length ∧ (AVal.renL f l).all AVal.leaf = l.all AVal.leaf
  | [] => by simp [AVal.renL]
  | a :: r => by
    have := renL_props f r
    simp only [AVal.renL, List.length_cons, this.1, List.all_cons, this.2, true_and]
    cases a <;> simp [AVal.ren, AVal.leaf]
end

mutual
theorem ren_id : ∀ (a : AVal), a.ren (fun i => i) = a
  | .dat d => rfl
  | .nils => rfl
  | .emp t => rfl
  | .nilp => rfl
  | .undef => rfl
  | .ref id off => rfl
  | .eref id ver i off => rfl
  | .rsl id ver sz off len => rfl
  | .fp l => rfl
  | .lits l => by simp [AVal.ren, renL_id l]
  | .agg l => by simp [AVal.ren, renL_id l]
  | .tup l => by simp [AVal.ren, renL_id l]
  | .fn g l => by simp [AVal.ren, renL_id l]
theorem renL_id : ∀ (l : List AVal), AVal.renL (fun i => i) l = l
  | [] => rfl
  | a :: r => by simp [AVal.renL, ren_id a, renL_id r]
end

/-- the objects stay under their names -/
abbrev Grow (C C' : Ctx) : Prop := Ext (fun i => i) (fun _ => True) C C'

theorem RepA.grow {C C' : Ctx} (h : Grow C C') {a : AVal} {v : Value} (hr : RepA C a v) : RepA C' a v := by
  have := RepA.ext h a v (fun _ _ => trivial) hr
  rwa [ren_id] at this

theorem RepL.grow {C C' : Ctx} (h : Grow C C') {l : List AVal} {cs : List Value} (hr : RepL C l cs) : RepL C' l cs := by
  have := RepL.ext h l cs (fun _ _ => trivial) hr
  rwa [renL_id] at this

theorem Grow.refl (C : Ctx) : Grow C C := ⟨fun _ _ _ h => h, fun _ _ _ h => h, fun _ A _ h => ⟨A, h, Nat.le_refl _, fun _ => ⟨rfl, rfl, Nat.le_refl _⟩⟩⟩

theorem Grow.trans {C C' C'' : Ctx} (h : Grow C C') (h' : Grow C' C'') : Grow C C'' := by
  refine ⟨fun b o v hv => h'.F _ _ _ (h.F _ _ _ hv), fun id L _ hb => h'.box id L trivial (h.box id L trivial hb), fun id A _ ha => ?_⟩
  obtain ⟨A', h1, h2, h3⟩ := h.arr id A trivial ha
  obtain ⟨A'', h4, h5, h6⟩ := h'.arr id A' trivial h1
  refine ⟨A'', h4, Nat.le_trans h2 h5, fun e => ?_⟩
  obtain ⟨a1, a2, a3⟩ := h3 (by omega)
  obtain ⟨b1, b2, b3⟩ := h6 (by omega)
  exact ⟨by rw [b1, a1], by rw [b2, a2], by omega⟩

theorem RepL.length {C : Ctx} : ∀ {l : List AVal} {cs : List Value}, RepL C l cs → cs.length = l.length
  | [], cs, h => by simp only [RepL] at h; simp [h]
  | a :: r, cs, h => by
    simp only [RepL] at h
    obtain ⟨c, cs', rfl, _, h3⟩ := h
    simp [h3.length]

theorem RepL.get {C : Ctx} : ∀ {l : List AVal} {cs : List Value}, RepL C l cs → ∀ {i : Nat} {a : AVal}, l[i]? = some a → ∃ c, cs[i]? = some c ∧ RepA C a c
  | [], cs, h, i, a, hi => by simp at hi
  | x :: r, cs, h, i, a, hi => by
    simp only [RepL] at h
    obtain ⟨c, cs', rfl, h2, h3⟩ := h
    cases i with
    | zero => simp at hi; subst hi; exact ⟨c, rfl, h2⟩
    | succ i => simp at hi; simpa using h3.get hi

theorem repL_of {C : Ctx} : ∀ {l : List AVal} {cs : List Value}, cs.length = l.length → (∀ (i : Nat) (a : AVal) (c : Value), l[i]? = some a → cs[i]? = some c → RepA C a c) → RepL C l cs
  | [], cs, hl, h => by simp only [RepL]; simpa using hl
  | x :: r, [], hl, h => by simp at hl
  | x :: r, c :: cs, hl, h => by
    simp only [RepL]
    exact ⟨c, cs, rfl, h 0 x c rfl rfl, repL_of (by simpa using hl) fun i a c hi hc => h (i + 1) a c (by simpa using hi) (by simpa using hc)⟩

theorem RepL.append {C : Ctx} {l l' : List AVal} {cs cs' : List Value} (h : RepL C l cs) (h' : RepL C l' cs') : RepL C (l ++ l') (cs ++ cs') := by
  induction l generalizing cs with
  | nil => simp only [RepL] at h; subst h; simpa using h'
  | cons a r ih =>
    simp only [RepL] at h
    obtain ⟨c, cs'', rfl, h2, h3⟩ := h
    simp only [List.cons_append, RepL]
    exact ⟨c, cs'' ++ cs', rfl, h2, ih h3⟩

theorem RepL.take {C : Ctx} {l : List AVal} {cs : List Value} (h : RepL C l cs) (n : Nat) : RepL C (l.take n) (cs.take n) := by
  refine repL_of (by simp [h.length]) fun i a c hi hc => ?_
  rw [List.getElem?_take] at hi hc
  split at hi
  · rename_i hlt
    rw [if_pos hlt] at hc
    obtain ⟨c', h1, h2⟩ := h.get hi
    rw [hc] at h1
    cases h1
    exact h2
  · cases hi

theorem RepL.drop {C : Ctx} {l : List AVal} {cs : List Value} (h : RepL C l cs) (n : Nat) : RepL C (l.drop n) (cs.drop n) := by
  refine repL_of (by simp [h.length]) fun i a c hi hc => ?_
  rw [List.getElem?_drop] at hi hc
  obtain ⟨c', h1, h2⟩ := h.get hi
  rw [hc] at h1
  cases h1
  exact h2

/-- leaves that are data, as a row of values -/
theorem repL_dat {C : Ctx} : ∀ {l : List Dat} {cs : List Value}, AggD C.F l cs → RepL C (l.map .dat) cs
  | [], cs, h => by simpa [AggD, RepL] using h
  | d :: r, cs, h => by
    simp only [AggD] at h
    obtain ⟨c, cs', rfl, h2, h3, h4⟩ := h
    simp only [List.map_cons, RepL, RepA]
    exact ⟨c, cs', rfl, repV_leaf h2 h3, repL_dat h4⟩

/-- a leaf is one cell -/
theorem RepA.leaf {C : Ctx} {a : AVal} {v : Value} (h : RepA C a v) (ha : a.leaf = true) : v.oneCell' = true ∧ isAggV v = false := by
  cases a with
  | dat d =>
    simp only [RepA] at h
    simp [AVal.leaf] at ha
    obtain ⟨c, h1, h2, h3⟩ := (h.cell ha).leaf ha
    simp at h1
    subst h1
    exact ⟨h2, h3⟩
  | nils => simp only [RepA] at h; subst h; exact ⟨rfl, rfl⟩
  | emp t => simp only [RepA] at h; obtain ⟨a, cap, rfl, _⟩ := h; exact ⟨rfl, rfl⟩
  | nilp => simp only [RepA] at h; subst h; exact ⟨rfl, rfl⟩
  | ref id off => simp only [RepA] at h; obtain ⟨L, _, rfl⟩ := h; exact ⟨rfl, rfl⟩
  | eref id ver i off => simp only [RepA] at h; obtain ⟨A, a, _, _, rfl, _⟩ := h; exact ⟨rfl, rfl⟩
  | rsl id ver sz off len => simp only [RepA] at h; obtain ⟨A, a, cap, _, _, rfl, _⟩ := h; exact ⟨rfl, rfl⟩
  | fp l => simp only [RepA] at h; obtain ⟨b, o, cs, rfl, _⟩ := h; exact ⟨rfl, rfl⟩
  | lits l => simp only [RepA] at h; obtain ⟨b, o, cap, cs, rfl, _⟩ := h; exact ⟨rfl, rfl⟩
  | fn f l => simp only [RepA] at h; obtain ⟨cs, rfl, _⟩ := h; exact ⟨rfl, rfl⟩
  | agg l => simp [AVal.leaf] at ha
  | tup l => simp [AVal.leaf] at ha
  | undef => simp [AVal.leaf] at ha

/-- the cells of a value -/
theorem RepA.cells {C : Ctx} {a : AVal} {v : Value} (h : RepA C a v) (ha : a.cells.all AVal.leaf = true) : RepL C a.cells v.cells.toList ∧ ∀ c ∈ v.cells.toList, c.oneCell' = true := by
  have single : a.cells = [a] → RepL C a.cells v.cells.toList ∧ ∀ c ∈ v.cells.toList, c.oneCell' = true := by
    intro e
    rw [e] at ha ⊢
    obtain ⟨h1, h2⟩ := h.leaf (by simpa using ha)
    rw [cells_of_not_agg h2]
    simp only [RepL]
    exact ⟨⟨v, [], rfl, h, rfl⟩, by simpa using h1⟩
  cases a with
  | dat d =>
    cases d with
    | agg l =>
      simp only [RepA] at h
      obtain ⟨cs, rfl, hc⟩ := h.agg
      exact ⟨repL_dat hc, by simpa [Value.cells] using hc.one⟩
    | _ => exact single rfl
  | agg l =>
    simp only [RepA] at h
    obtain ⟨cs, rfl, h1, h2, h3⟩ := h
    exact ⟨by simpa [Value.cells] using h1, by simpa [Value.cells] using h3⟩
  | _ => exact single rfl

end Go.Am

/- The abstract machine: the invariant that ties a store of the abstract machine to a world of the model, and how it is kept by one step. -/
set_option linter.unusedVariables false
set_option linter.unusedSimpArgs false
namespace Go.Am

/-! ## What a step leaves alone -/

abbrev Cells := Nat → Nat → Prop

def mayOf (T : Cells) : MemPlace → Prop := fun p => ∃ b o, p = .cell b o ∧ T b o

structure Kept (w w' : World) (T : Cells) : Prop where
  but : w.keptBut w' (mayOf T)
  frozen : ∀ a, w'.frozen? a = w.frozen? a
  size : w.heap.size ≤ w'.heap.size

theorem Kept.refl (w : World) (T : Cells) : Kept w w T := ⟨World.keptBut_refl _ _, fun _ => rfl, Nat.le_refl _⟩

theorem Kept.mono {w w' : World} {T T' : Cells} (h : Kept w w' T) (ht : ∀ b o, b < w.heap.size → T b o → T' b o) : Kept w w' T' := by
  refine ⟨⟨h.but.1, h.but.2.1, fun i hi => ?_⟩, h.frozen, h.size⟩
  have := h.but.2.2 i hi
  split at this
  · refine ⟨this.1, this.2.1, this.2.2.1, fun j hj => this.2.2.2 j fun hm => hj ?_⟩
    obtain ⟨b, o, e, hT⟩ := hm
    cases e
    exact ⟨_, _, rfl, ht _ _ hi hT⟩
  · refine orMap this (fun hm => ?_) id
    obtain ⟨b, o, e, _⟩ := hm
    cases e
  · exact this

theorem Kept.cell {w w' : World} {T : Cells} (h : Kept w w' T) {b o : Nat} (hb : b < w.heap.size) (hT : ¬ T b o) : w'.cell? ⟨b, o, none⟩ = w.cell? ⟨b, o, none⟩ :=
  h.but.cell hb (fun ⟨_, _, e, ht⟩ => by cases e; exact hT ht)

theorem Kept.cell_some {w w' : World} {T : Cells} (h : Kept w w' T) {b o : Nat} {v : Value} (hv : w.cell? ⟨b, o, none⟩ = some v) (hT : ¬ T b o) : w'.cell? ⟨b, o, none⟩ = some v := by
  rw [h.cell (by simpa using World.block_lt_of_cell? _ _ hv) hT, hv]

theorem cellsAt_of_cells {w : World} {b : Nat} {c : Array Value} {t : TypeId} {fr : Nat × Nat} (h : w.heap[b]? = some (.cells c t fr)) (o : Nat) : w.cell? ⟨b, o, none⟩ = c[o]? := by
  simp [World.cell?, h]

theorem Kept.some {w w' : World} {T : Cells} (h : Kept w w' T) {b o : Nat} {v : Value} (hv : w.cell? ⟨b, o, none⟩ = some v) : ∃ u, w'.cell? ⟨b, o, none⟩ = some u := by
  have hb : b < w.heap.size := by simpa using World.block_lt_of_cell? _ _ hv
  have hk := h.but.2.2 b hb
  split at hk
  · rename_i c t fr c' t' fr' h1 h2
    rw [cellsAt_of_cells h1] at hv
    rw [cellsAt_of_cells h2]
    have : o < c'.size := by
      have := (Array.getElem?_eq_some_iff.1 hv).1
      omega
    exact ⟨c'[o], by simp [this]⟩
  · rename_i h1 h2
    simp [World.cell?, h1] at hv
  · rename_i h1 h2
    refine ⟨v, ?_⟩
    unfold World.cell? at hv ⊢
    simp only [hk]
    exact hv

theorem Kept.trans {w w' w'' : World} {T T' U : Cells} (h : Kept w w' T) (h' : Kept w' w'' T') (ht : ∀ b o, b < w.heap.size → T b o → U b o) (ht' : ∀ b o, b < w.heap.size → T' b o → U b o) : Kept w w'' U := by
  refine ⟨⟨h'.but.1.trans h.but.1, h'.but.2.1.trans h.but.2.1, fun i hi => ?_⟩, fun a => (h'.frozen a).trans (h.frozen a), Nat.le_trans h.size h'.size⟩
  have k1 := h.but.2.2 i hi
  have k2 := h'.but.2.2 i (Nat.lt_of_lt_of_le hi h.size)
  have nm : ∀ {V : Cells}, ¬ mayOf V (.map i) := fun ⟨_, _, e, _⟩ => by cases e
  cases e0 : w.heap[i]? with
  | none => simp [e0] at k1; simp [Array.getElem?_eq_none_iff] at e0; omega
  | some x0 =>
    cases e1 : w'.heap[i]? with
    | none => have := Nat.lt_of_lt_of_le hi h.size; simp [Array.getElem?_eq_none_iff] at e1; omega
    | some x1 =>
      cases e2 : w''.heap[i]? with
      | none => have := Nat.lt_of_lt_of_le hi (Nat.le_trans h.size h'.size); simp [Array.getElem?_eq_none_iff] at e2; omega
      | some x2 =>
        rw [e0, e1] at k1
        rw [e1, e2] at k2
        cases x0 with
        | cells c t fr =>
          cases x1 with
          | cells c1 t1 fr1 =>
            cases x2 with
            | cells c2 t2 fr2 =>
              simp only at k1 k2 ⊢
              refine ⟨k2.1.trans k1.1, k2.2.1.trans k1.2.1, k2.2.2.1.trans k1.2.2.1, fun j hj => ?_⟩
              rw [k2.2.2.2 j, k1.2.2.2 j]
              · rintro ⟨b, o, e, hT⟩; cases e; exact hj ⟨_, _, rfl, ht _ _ hi hT⟩
              · rintro ⟨b, o, e, hT⟩; cases e; exact hj ⟨_, _, rfl, ht' _ _ hi hT⟩
            | _ => simp at k2
          | _ => simp at k1
        | map es clock =>
          cases x1 with
          | map es1 clock1 =>
            cases x2 with
            | map es2 clock2 =>
              simp only at k1 k2 ⊢
              have k1' := k1.resolve_left nm
              have k2' := k2.resolve_left nm
              exact .inr ⟨k2'.1.trans k1'.1, k2'.2.trans k1'.2⟩
            | _ => simp at k2
          | _ => simp at k1
        | _ => simp_all

theorem Kept.alloc (w : World) (c : Array Value) (t : TypeId) (T : Cells) : Kept w (w.alloc (.cells c t)) T := by
  refine ⟨⟨rfl, rfl, fun i hi => ?_⟩, fun a => ?_, by simp⟩
  · have : (w.alloc (.cells c t)).heap[i]? = w.heap[i]? := by
      simp only [World.alloc, Array.getElem?_push]; rw [if_neg (by omega)]
    rw [this]
    exact (World.keptBut_refl w _).2.2 i hi
  · by_cases h : a.block = w.heap.size
    · cases a with
      | mk b o s =>
        simp only at h
        subst h
        have e1 : (w.alloc (.cells c t)).frozen? ⟨w.heap.size, o, s⟩ = false := by
          simp only [World.alloc, World.frozen?, Array.getElem?_push, if_true]
          simp
        have e2 : w.frozen? ⟨w.heap.size, o, s⟩ = false := by simp [World.frozen?]
        rw [e1, e2]
    · exact World.frozen?_alloc_old w _ a h

theorem Kept.setCells (w : World) (b o : Nat) (vs : List Value) (T : Cells) (hT : ∀ j, j < vs.length → T b (o + j)) : Kept w (w.setCells b o vs) T := by
  refine ⟨World.keptBut_setCells b vs o w fun j hj => ⟨_, _, rfl, hT j hj⟩, fun a => World.frozen?_setCells b vs o w a, ?_⟩
  have : ∀ (vs : List Value) (o : Nat) (w : World), (w.setCells b o vs).heap.size = w.heap.size := by
    intro vs
    induction vs with
    | nil => intro o w; rfl
    | cons v r ih => intro o w; rw [World.setCells, ih, World.size_setCell]
  rw [this]; exact Nat.le_refl _

theorem Kept.drew (w : World) (T : Cells) : Kept w w.drew T :=
  ⟨⟨rfl, rfl, fun i hi => (World.keptBut_refl w _).2.2 i hi⟩, fun _ => rfl, Nat.le_refl _⟩

/-! ## Objects -/

def Obj.own : Obj → Bool
  | .arr _ _ fz _ => !fz
  | _ => true

def OwnOK (C : Ctx) (L : Loc) : Prop :=
  ∀ j, j < L.n → (∃ v, C.w.cell? ⟨L.b, L.o + j, none⟩ = some v) ∧ C.w.frozen? ⟨L.b, L.o + j, none⟩ = false ∧ C.F L.b (L.o + j) = none

def ObjOK (C : Ctx) (L : Loc) : Obj → Prop
  | .box cs => L.n = cs.length ∧ cs.all AVal.leaf = true ∧ OwnOK C L ∧
      ∀ (j : Nat) (a : AVal), cs[j]? = some a → ∃ v, C.w.cell? ⟨L.b, L.o + j, none⟩ = some v ∧ RepA C a v
  | .arr sz ver fz es => 1 ≤ sz ∧ (∃ cap, L.n = cap * sz ∧ es.length ≤ cap) ∧
      (fz = false → OwnOK C L ∧ ∀ (i : Nat) (d : Dat), es[i]? = some d → ∃ cs, cs.length = sz ∧ RepD C.F d cs ∧ ∀ (j : Nat) (v : Value), cs[j]? = some v → C.w.cell? ⟨L.b, L.o + i * sz + j, none⟩ = some v) ∧
      (fz = true → RowD C.F es L.b L.o sz)
  | .rarr ver es => es.length ≤ L.n ∧ es.all AVal.leaf = true ∧ OwnOK C L ∧
      ∀ (j : Nat) (a : AVal), es[j]? = some a → ∃ v, C.w.cell? ⟨L.b, L.o + j, none⟩ = some v ∧ RepA C a v

structure Base where
  w : World
  F : Froz
  O : Cells

structure Inv (B : Base) (C : Ctx) : Prop where
  objs : ∀ id o, C.ρ id = some o → ObjOK C (C.μ id) o
  disj : ∀ id id' o o', C.ρ id = some o → C.ρ id' = some o' → o.own = true → o'.own = true → id ≠ id' →
    ∀ j j', j < (C.μ id).n → j' < (C.μ id').n → ¬ ((C.μ id).b = (C.μ id').b ∧ (C.μ id).o + j = (C.μ id').o + j')
  own : ∀ id o, C.ρ id = some o → o.own = true → ∀ j, j < (C.μ id).n → B.O (C.μ id).b ((C.μ id).o + j) ∨ B.w.heap.size ≤ (C.μ id).b
  kept : Kept B.w C.w B.O
  Fw : ∀ b o v, C.F b o = some v → C.w.cell? ⟨b, o, none⟩ = some v
  Fsub : B.F.le C.F
  Fnew : ∀ b o v, C.F b o = some v → B.F b o = some v ∨ B.O b o ∨ B.w.heap.size ≤ b

theorem ObjOK.ownOK {C : Ctx} {L : Loc} {o : Obj} (h : ObjOK C L o) (ho : o.own = true) : OwnOK C L := by
  cases o with
  | box cs => exact h.2.2.1
  | arr sz ver fz es =>
    simp only [Obj.own, Bool.not_eq_true'] at ho
    exact (h.2.2.1 ho).1
  | rarr ver es => exact h.2.2.1

/-- an object that the step did not touch -/
theorem ObjOK.keep {C C' : Ctx} {L : Loc} {o : Obj} {T : Cells} (h : ObjOK C L o) (hg : Grow C C') (hk : Kept C.w C'.w T) (hFn : ∀ b o v, C'.F b o = some v → C.F b o = some v ∨ C.w.heap.size ≤ b ∨ T b o)
    (hT : o.own = true → ∀ j, j < L.n → ¬ T L.b (L.o + j)) : ObjOK C' L o := by
  have hown : o.own = true → OwnOK C' L := by
    intro ho j hj
    obtain ⟨⟨v, hv⟩, hf, hF⟩ := h.ownOK ho j hj
    refine ⟨⟨v, hk.cell_some hv (hT ho j hj)⟩, by rw [hk.frozen]; exact hf, ?_⟩
    cases e : C'.F L.b (L.o + j) with
    | none => rfl
    | some u =>
      rcases hFn _ _ _ e with h1 | h1 | h1
      · rw [hF] at h1; cases h1
      · have := World.block_lt_of_cell? _ _ hv; simp at this; omega
      · exact absurd h1 (hT ho j hj)
  cases o with
  | box cs =>
    refine ⟨h.1, h.2.1, hown rfl, fun j a ha => ?_⟩
    obtain ⟨v, hv, hr⟩ := h.2.2.2 j a ha
    have hj : j < L.n := by rw [h.1]; exact (List.getElem?_eq_some_iff.1 ha).1
    exact ⟨v, hk.cell_some hv (hT rfl j hj), hr.grow hg⟩
  | rarr ver es =>
    refine ⟨h.1, h.2.1, hown rfl, fun j a ha => ?_⟩
    obtain ⟨v, hv, hr⟩ := h.2.2.2 j a ha
    have hj : j < L.n := Nat.lt_of_lt_of_le (List.getElem?_eq_some_iff.1 ha).1 h.1
    exact ⟨v, hk.cell_some hv (hT rfl j hj), hr.grow hg⟩
  | arr sz ver fz es =>
    obtain ⟨h1, ⟨cap, h2, h2'⟩, h3, h4⟩ := h
    refine ⟨h1, ⟨cap, h2, h2'⟩, fun e => ?_, fun e => RowD.mono hg.F _ _ _ _ (h4 e)⟩
    have ho : (Obj.arr sz ver fz es).own = true := by simp [Obj.own, e]
    refine ⟨hown ho, fun i d hd => ?_⟩
    obtain ⟨cs, h5, h6, h7⟩ := (h3 e).2 i d hd
    refine ⟨cs, h5, RepD.mono hg.F _ _ h6, fun j v hv => ?_⟩
    have hi : i < es.length := (List.getElem?_eq_some_iff.1 hd).1
    have hj : j < sz := by rw [← h5]; exact (List.getElem?_eq_some_iff.1 hv).1
    have hlt : i * sz + j < L.n := by
      rw [h2]
      calc i * sz + j < i * sz + sz := by omega
        _ = (i + 1) * sz := by rw [Nat.add_mul]; omega
        _ ≤ cap * sz := Nat.mul_le_mul_right _ (by omega)
    have := hT ho (i * sz + j) hlt
    exact hk.cell_some (h7 j v hv) (by rwa [Nat.add_assoc])

/-- ONE STEP: at most the object id has changed, at most its own cells were written; what is frozen anew lies in new blocks or in those cells. -/
theorem Inv.step {B : Base} {C C' : Ctx} (h : Inv B C) (id : Id) (T : Cells)
    (hT : ∀ b o, T b o → ∃ ob, C.ρ id = some ob ∧ ob.own = true ∧ ∃ j, j < (C.μ id).n ∧ b = (C.μ id).b ∧ o = (C.μ id).o + j)
    (hk : Kept C.w C'.w T)
    (hFn : ∀ b o v, C'.F b o = some v → C.F b o = some v ∨ C.w.heap.size ≤ b ∨ T b o)
    (hFw : ∀ b o v, C'.F b o = some v → C.F b o = none → C'.w.cell? ⟨b, o, none⟩ = some v)
    (hρ : ∀ id', id' ≠ id → C'.ρ id' = C.ρ id' ∧ C'.μ id' = C.μ id')
    (hg : Grow C C')
    (hnew : ∀ o', C'.ρ id = some o' → ObjOK C' (C'.μ id) o')
    (hloc : ∀ o', C'.ρ id = some o' → o'.own = true → C.w.heap.size ≤ (C'.μ id).b ∨ (C'.μ id).n = 0 ∨ (∃ o, C.ρ id = some o ∧ o.own = true ∧ C'.μ id = C.μ id)) :
    Inv B C' := by
  have cellOf : ∀ id o, C.ρ id = some o → o.own = true → ∀ j, j < (C.μ id).n → (C.μ id).b < C.w.heap.size := by
    intro id o ho hw j hj
    obtain ⟨⟨v, hv⟩, _⟩ := (h.objs id o ho).ownOK hw j hj
    simpa using World.block_lt_of_cell? _ _ hv
  have notT : ∀ id' o', id' ≠ id → C.ρ id' = some o' → o'.own = true → ∀ j, j < (C.μ id').n → ¬ T (C.μ id').b ((C.μ id').o + j) := by
    intro id' o' hne ho' hw' j hj hTT
    obtain ⟨ob, ho, hw, j0, hj0, hb, hoo⟩ := hT _ _ hTT
    exact h.disj id' id o' ob ho' ho hw' hw hne j j0 hj hj0 ⟨hb, hoo⟩
  have TF : ∀ b o, T b o → C.F b o = none := by
    intro b o hTT
    obtain ⟨ob, ho, hw, j0, hj0, rfl, rfl⟩ := hT _ _ hTT
    exact ((h.objs id ob ho).ownOK hw j0 hj0).2.2
  have TO : ∀ b o, T b o → B.O b o ∨ B.w.heap.size ≤ b := by
    intro b o hTT
    obtain ⟨ob, ho, hw, j0, hj0, rfl, rfl⟩ := hT _ _ hTT
    exact h.own id ob ho hw j0 hj0
  refine ⟨fun id' o' ho' => ?_, fun i1 i2 o1 o2 ho1 ho2 hw1 hw2 hne j1 j2 hj1 hj2 => ?_, fun id' o' ho' hw' j hj => ?_, ?_, fun b o v hv => ?_, fun b o v hv => hg.F _ _ _ (h.Fsub _ _ _ hv), fun b o v hv => ?_⟩
  · by_cases e : id' = id
    · subst e; exact hnew o' ho'
    · obtain ⟨e1, e2⟩ := hρ id' e
      rw [e1] at ho'
      rw [e2]
      exact (h.objs id' o' ho').keep hg hk hFn (fun hw => notT id' o' e ho' hw)
  · by_cases e1 : i1 = id
    · have e2 : i2 ≠ id := fun e2 => hne (e1.trans e2.symm)
      obtain ⟨q1, q2⟩ := hρ i2 e2
      rw [q1] at ho2
      rw [q2] at hj2 ⊢
      subst e1
      rcases hloc o1 ho1 hw1 with hl | hl | ⟨o, hl1, hl2, hl3⟩
      · intro ⟨hb, _⟩
        have := cellOf i2 o2 ho2 hw2 j2 hj2
        omega
      · omega
      · rw [hl3] at hj1 ⊢
        exact h.disj i1 i2 o o2 hl1 ho2 hl2 hw2 hne j1 j2 hj1 hj2
    · obtain ⟨q1, q2⟩ := hρ i1 e1
      rw [q1] at ho1
      rw [q2] at hj1 ⊢
      by_cases e2 : i2 = id
      · subst e2
        rcases hloc o2 ho2 hw2 with hl | hl | ⟨o, hl1, hl2, hl3⟩
        · intro ⟨hb, _⟩
          have := cellOf i1 o1 ho1 hw1 j1 hj1
          omega
        · omega
        · rw [hl3] at hj2 ⊢
          exact h.disj i1 i2 o1 o ho1 hl1 hw1 hl2 hne j1 j2 hj1 hj2
      · obtain ⟨q3, q4⟩ := hρ i2 e2
        rw [q3] at ho2
        rw [q4] at hj2 ⊢
        exact h.disj i1 i2 o1 o2 ho1 ho2 hw1 hw2 hne j1 j2 hj1 hj2
  · by_cases e : id' = id
    · subst e
      rcases hloc o' ho' hw' with hl | hl | ⟨o, hl1, hl2, hl3⟩
      · exact .inr (Nat.le_trans h.kept.size hl)
      · omega
      · rw [hl3] at hj ⊢
        exact h.own id' o hl1 hl2 j hj
    · obtain ⟨q1, q2⟩ := hρ id' e
      rw [q1] at ho'
      rw [q2] at hj ⊢
      exact h.own id' o' ho' hw' j hj
  · refine h.kept.trans hk (fun _ _ _ h => h) fun b o hb hTT => ?_
    rcases TO b o hTT with h1 | h1
    · exact h1
    · omega
  · cases e : C.F b o with
    | none => exact hFw b o v hv e
    | some u =>
      have := hg.F _ _ _ e
      rw [hv] at this
      cases this
      exact hk.cell_some (h.Fw _ _ _ e) (fun hTT => by rw [TF _ _ hTT] at e; cases e)
  · rcases hFn b o v hv with h1 | h1 | h1
    · exact h.Fnew _ _ _ h1
    · exact .inr (.inr (Nat.le_trans h.kept.size h1))
    · exact .inr (TO _ _ h1)

/-- a step that changes no object and writes no cell: a draw, a new frozen block -/
theorem Inv.plain {B : Base} {C C' : Ctx} (h : Inv B C) (hk : Kept C.w C'.w (fun _ _ => False))
    (hF : C.F.le C'.F) (hFn : ∀ b o v, C'.F b o = some v → C.F b o = some v ∨ C.w.heap.size ≤ b)
    (hFw : ∀ b o v, C'.F b o = some v → C.F b o = none → C'.w.cell? ⟨b, o, none⟩ = some v)
    (hρ : C'.ρ = C.ρ) (hμ : C'.μ = C.μ) : Inv B C' ∧ Grow C C' := by
  have hg : Grow C C' := ⟨hF, fun id L _ hb => by simpa [boxAt, hρ, hμ] using hb, fun id A _ ha => ⟨A, by simpa [arrAt, hρ, hμ] using ha, Nat.le_refl _, fun _ => ⟨rfl, rfl, Nat.le_refl _⟩⟩⟩
  refine ⟨?_, hg⟩
  refine h.step (0, 0) (fun _ _ => False) (fun _ _ h => h.elim) hk (fun b o v hv => orMap (hFn b o v hv) id .inl) hFw (fun _ _ => by simp [hρ, hμ]) hg ?_ ?_
  · intro o' ho'
    rw [hρ] at ho'
    rw [hμ]
    exact (h.objs _ o' ho').keep hg hk (fun b o v hv => orMap (hFn b o v hv) id .inl) (fun _ _ _ => id)
  · intro o' ho' hw'
    rw [hρ] at ho'
    exact .inr (.inr ⟨o', ho', hw', by rw [hμ]⟩)

/-- a draw -/
theorem Inv.drew {B : Base} {C : Ctx} (h : Inv B C) : Inv B { C with w := C.w.drew } ∧ Grow C { C with w := C.w.drew } :=
  h.plain (C' := { C with w := C.w.drew }) (Kept.drew _ _) (fun _ _ _ h => h) (fun _ _ _ h => .inl h) (fun b o v hv e => by simp only at hv; rw [e] at hv; cases hv) rfl rfl

/-- the cells of a new block as frozen ones -/
def Froz.add (F : Froz) (b : Nat) (cs : List Value) : Froz := fun b' o => if b' = b then cs[o]? else F b' o

/-- a new block, frozen at once -/
theorem Inv.allocF {B : Base} {C : Ctx} (h : Inv B C) (cs : Array Value) (t : TypeId) :
    let C' : Ctx := { C with w := C.w.alloc (.cells cs t), F := C.F.add C.w.heap.size cs.toList }
    Inv B C' ∧ Grow C C' := by
  have hnone : ∀ o, C.F C.w.heap.size o = none := by
    intro o
    cases e : C.F C.w.heap.size o with
    | none => rfl
    | some v => have := World.block_lt_of_cell? _ _ (h.Fw _ _ _ e); simp at this
  refine h.plain (C' := { C with w := C.w.alloc (.cells cs t), F := C.F.add C.w.heap.size cs.toList }) (Kept.alloc _ _ _ _) (fun b o v hv => ?_) (fun b o v hv => ?_) (fun b o v hv e => ?_) rfl rfl
  · simp only [Froz.add]
    split
    · rename_i e; subst e; rw [hnone] at hv; cases hv
    · exact hv
  · simp only [Froz.add] at hv
    split at hv
    · rename_i e; subst e; exact .inr (Nat.le_refl _)
    · exact .inl hv
  · simp only [Froz.add] at hv
    split at hv
    · rename_i e'; subst e'; simpa using hv
    · rw [e] at hv; cases hv

theorem cellsAt_add (F : Froz) (b : Nat) (cs : List Value) : cellsAt (F.add b cs) b 0 cs := by
  intro j v hj
  simp [Froz.add, hj]

/-- the version that an object made anew under an id bears -/
theorem newVer_lt {ρ : Look} {id : Id} {nv : Nat} (h : newVer ρ id = some nv) : (∀ cs, ρ id ≠ some (.box cs)) ∧ (∀ sz v fz es, ρ id = some (.arr sz v fz es) → v < nv) ∧ (∀ v es, ρ id = some (.rarr v es) → v < nv) := by
  unfold newVer at h
  cases e : ρ id with
  | none => simp
  | some o =>
    cases o with
    | box cs => simp [e] at h
    | arr sz v fz es =>
      simp [e] at h
      refine ⟨by simp, fun sz' v' fz' es' q => ?_, by simp⟩
      cases q
      omega
    | rarr v es =>
      simp [e] at h
      refine ⟨by simp, by simp, fun v' es' q => ?_⟩
      cases q
      omega

/-- A NEW OBJECT IN A NEW BLOCK, or one without cells. -/
theorem Inv.allocO {B : Base} {C : Ctx} (h : Inv B C) (w' : World) (hk : Kept C.w w' (fun _ _ => False)) (id : Id) (o : Obj) (L : Loc)
    (hold : (∀ cs, C.ρ id ≠ some (.box cs)) ∧ ∀ A, arrAt C id = some A → match o with
      | .box _ => False
      | .arr _ v _ _ => A.ver < v
      | .rarr v _ => A.ver < v)
    (hL : C.w.heap.size ≤ L.b ∨ L.n = 0)
    (hobj : ∀ (C' : Ctx), C'.w = w' → C'.F = C.F → Grow C C' → ObjOK C' L o) :
    let C' : Ctx := { w := w', F := C.F, μ := fun i => if i = id then L else C.μ i, ρ := fun i => if i = id then some o else C.ρ i }
    Inv B C' ∧ Grow C C' ∧ C'.ρ = updL C.ρ [(id, o)] := by
  intro C'
  have hg : Grow C C' := by
    refine ⟨fun _ _ _ h => h, fun i M _ hb => ?_, fun i A _ ha => ?_⟩
    · by_cases e : i = id
      · subst e
        unfold boxAt at hb
        cases e' : C.ρ i with
        | none => simp [e'] at hb
        | some ob => cases ob <;> simp [e'] at hb; exact absurd e' (hold.1 _)
      · simpa [boxAt, C', e] using hb
    · by_cases e : i = id
      · subst e
        have := hold.2 A ha
        cases o with
        | box cs => exact this.elim
        | arr sz v fz es => exact ⟨⟨v, sz, es.length, L⟩, by simp [arrAt, C'], Nat.le_of_lt this, fun e => absurd e (by simp only at this ⊢; omega)⟩
        | rarr v es => exact ⟨⟨v, 1, es.length, L⟩, by simp [arrAt, C'], Nat.le_of_lt this, fun e => absurd e (by simp only at this ⊢; omega)⟩
      · exact ⟨A, by simpa [arrAt, C', e] using ha, Nat.le_refl _, fun _ => ⟨rfl, rfl, Nat.le_refl _⟩⟩
  refine ⟨?_, hg, ?_⟩
  · refine h.step id (fun _ _ => False) (fun _ _ h => h.elim) hk (fun b o v hv => .inl hv) (fun b o v hv e => by simp only [C'] at hv; rw [e] at hv; cases hv) (fun i hi => by simp [C', hi]) hg ?_ ?_
    · intro o' ho'
      have : o' = o := by simpa [C'] using ho'.symm
      subst this
      have e : C'.μ id = L := by simp [C']
      rw [e]
      exact hobj C' rfl rfl hg
    · intro o' _ _
      have e : C'.μ id = L := by simp [C']
      rw [e]
      exact orMap hL (fun x => x) .inl
  · funext i
    by_cases e : i = id
    · subst e; simp [C', updL]
    · have e' : ¬ id = i := fun x => e x.symm
      simp [C', updL, e, e']

end Go.Am

/- The abstract machine: each operation of the model does what the abstract one says (all but calls, and what makes or writes memory). -/
set_option linter.unusedVariables false
set_option linter.unusedSimpArgs false
namespace Go.Am

/-- the operation comes to a value and a world of which Φ holds -/
def Does (P : Program) (o : Oper) (a : Act) (w : World) (Φ : Value → World → Prop) : Prop :=
  (∃ val w', (execOp a.eval o).run P w = .ok (.value val) w' ∧ Φ val w') ∨
  (∃ w', (execOp a.eval o).run P w = .ok .skip w' ∧ Φ undef w') ∨
  (∃ f args, (execOp a.eval o).run P w = .ok (.enter f args) w ∧ Calls P f args w fun e w' => ∃ val, e = .returned val ∧ Φ val w')

theorem Does.wp {P : Program} {o : Oper} {a : Act} {w : World} {Φ : Value → World → Prop} {next : Act → World → Prop} {Q : Exit → Act → World → Prop}
    (h : Does P o a w Φ) (hn : ∀ val w', Φ val w' → next (a.put o.dst val) w') : o.wp P a w next Q := by
  unfold Oper.wp
  rcases h with ⟨val, w', hr, hp⟩ | ⟨w', hr, hp⟩ | ⟨f, args, hr, hc⟩
  · rw [hr]; exact hn _ _ hp
  · rw [hr]; exact hn _ _ hp
  · rw [hr]
    exact hc.mono fun e w' ⟨val, he, hp⟩ => by subst he; exact hn _ _ hp

theorem Does.mono {P : Program} {o : Oper} {a : Act} {w : World} {Φ Φ' : Value → World → Prop} (h : Does P o a w Φ) (hp : ∀ v w', Φ v w' → Φ' v w') : Does P o a w Φ' := by
  rcases h with ⟨val, w', hr, h⟩ | ⟨w', hr, h⟩ | ⟨f, args, hr, hc⟩
  · exact .inl ⟨val, w', hr, hp _ _ h⟩
  · exact .inr (.inl ⟨w', hr, hp _ _ h⟩)
  · exact .inr (.inr ⟨f, args, hr, hc.mono fun e w' ⟨val, he, h⟩ => ⟨val, he, hp _ _ h⟩⟩)

/-- what an operation owes -/
def Owes (B : Base) (C : Ctx) (v : AVal) (upd : List (Id × Obj)) (val : Value) (w' : World) : Prop :=
  ∃ C' : Ctx, C'.w = w' ∧ C'.ρ = updL C.ρ upd ∧ Inv B C' ∧ Grow C C' ∧ RepA C' v val

/-- an operation that leaves the world alone -/
theorem does_same {P : Program} {o : Oper} {a : Act} {B : Base} {C : Ctx} {v : AVal} {val : Value} (h : Inv B C)
    (hr : (execOp a.eval o).run P C.w = .ok (.value val) C.w) (hv : RepA C v val) : Does P o a C.w (Owes B C v []) :=
  .inl ⟨val, C.w, hr, C, rfl, rfl, h, Grow.refl C, hv⟩

/-! ## Operands -/

def RepE (C : Ctx) (g : Nat → AVal) (a : Act) : Prop := ∀ t, RepA C (g t) (a.tmps.getD t undef)

theorem cst_rep {C : Ctx} {v : Value} {x : AVal} (h : cst v = some x) : RepA C x v ∧ x.leaf = true := by
  unfold cst at h
  split at h <;> simp at h <;> subst h
  · exact ⟨by simp [RepA, RepV, RepD, Value.cells, isAggV], by simp⟩
  · exact ⟨by simp [RepA, RepV, RepD, Value.cells, isAggV], by simp⟩
  · exact ⟨by simp [RepA, RepV, RepD, Value.cells, isAggV], by simp⟩
  · exact ⟨by simp [RepA], by simp⟩
  · exact ⟨by simp [RepA], by simp⟩

theorem allSome_spec {α : Type} : ∀ {l : List (Option α)} {r : List α}, allSome l = some r → l = r.map some
  | [], r, h => by simp [allSome] at h; subst h; rfl
  | none :: l, r, h => by simp [allSome] at h
  | some a :: l, r, h => by
    simp only [allSome] at h
    cases e : allSome l with
    | none => simp [e] at h
    | some r' => simp [e] at h; subst h; simp [allSome_spec e]

theorem cst_reps {C : Ctx} : ∀ {vs : List Value} {l : List AVal}, allSome (vs.map cst) = some l → RepL C l vs ∧ l.all AVal.leaf = true ∧ ∀ v ∈ vs, v.oneCell' = true
  | [], l, h => by simp [allSome] at h; subst h; simp [RepL]
  | v :: vs, l, h => by
    simp only [List.map_cons] at h
    cases e : cst v with
    | none => simp [allSome, e] at h
    | some x =>
      rw [e] at h
      simp only [allSome] at h
      cases e' : allSome (vs.map cst) with
      | none => simp [e'] at h
      | some r =>
        simp [e'] at h
        subst h
        obtain ⟨h1, h2, h3⟩ := cst_reps (C := C) e'
        obtain ⟨h4, h5⟩ := cst_rep (C := C) e
        refine ⟨⟨v, vs, rfl, h4, h1⟩, by rw [List.all_cons, h5, h2]; rfl, fun u hu => ?_⟩
        cases hu with
        | head => exact (h4.leaf h5).1
        | tail _ hu => exact h3 u hu

theorem cX_rep {C : Ctx} {g : Nat → AVal} {a : Act} (hg : RepE C g a) {x : Operand} {ax : AX} (h : cX x = some ax) : RepA C (evX g ax) (a.eval x) := by
  cases x with
  | tmp t => simp [cX] at h; subst h; exact hg t
  | func f => simp [cX] at h; subst h; simp [evX, Act.eval, RepA, RepL]
  | global n => simp [cX] at h
  | const v =>
    simp only [cX] at h
    split at h
    · rename_i cs
      cases e : allSome (cs.toList.map cst) with
      | none => simp [e] at h
      | some l =>
        simp [e] at h
        subst h
        obtain ⟨h1, h2, h3⟩ := cst_reps (C := C) e
        exact ⟨cs, rfl, h1, h2, by simpa using h3⟩
    · cases e : cst v with
      | none => simp [e] at h
      | some y =>
        simp [e] at h
        subst h
        exact (cst_rep e).1

theorem cXs_rep {C : Ctx} {g : Nat → AVal} {a : Act} (hg : RepE C g a) : ∀ {xs : List Operand} {axs : List AX}, allSome (xs.map cX) = some axs → RepL C (axs.map (evX g)) (xs.map a.eval)
  | [], axs, h => by simp [allSome] at h; subst h; simp [RepL]
  | x :: xs, axs, h => by
    simp only [List.map_cons] at h
    cases e : cX x with
    | none => simp [allSome, e] at h
    | some y =>
      rw [e] at h
      simp only [allSome] at h
      cases e' : allSome (xs.map cX) with
      | none => simp [e'] at h
      | some r =>
        simp [e'] at h
        subst h
        exact ⟨_, _, rfl, cX_rep hg e, cXs_rep hg e'⟩

/-! ## Types -/

theorem tI_info {P : Program} {t : TypeId} {q : TI} (h : tI P t = some q) : ∃ i d, P.info? t = some i ∧ P.underlying t = some d ∧ q.size = i.size ∧ q.bytes = i.bytes ∧
    q.agg = (match d with | .struct _ | .array _ _ => true | _ => false) ∧ q.zero = i.zero.bind cstCells := by
  unfold tI at h
  cases e : P.info? t with
  | none => simp [e] at h
  | some i =>
    cases e' : P.underlying t with
    | none => simp [e, e'] at h
    | some d => simp [e, e'] at h; subst h; exact ⟨i, d, rfl, rfl, rfl, rfl, rfl, rfl⟩

theorem run_typeInfo {P : Program} {t : TypeId} {i : TypeInfo} (h : P.info? t = some i) (w : World) : (typeInfo t).run P w = .ok i w := by
  simp [typeInfo, h]

theorem run_sizeOf {P : Program} {t : TypeId} {q : TI} (h : tI P t = some q) (w : World) : (sizeOf t).run P w = .ok q.size w := by
  obtain ⟨i, d, h1, _, h3, _⟩ := tI_info h
  simp [sizeOf, run_typeInfo h1, h3]

theorem run_isAgg {P : Program} {t : TypeId} {q : TI} (h : tI P t = some q) (w : World) : (isAgg t).run P w = .ok q.agg w := by
  obtain ⟨i, d, _, h2, _, _, h5, _⟩ := tI_info h
  rw [h5]
  simp only [isAgg, Sem.run_bind, run_underlying h2, Result.andThen_ok]
  cases d <;> rfl

theorem Addr.add_mk (b o n : Nat) : (⟨b, o, none⟩ : Addr).add n = ⟨b, o + n, none⟩ := by
  unfold Addr.add; split <;> simp_all

/-! ## Operations without memory -/

section
variable {P : Program} {o : Oper} {a : Act} {B : Base} {C : Ctx} {g : Nat → AVal}

theorem op_mv (hI : Inv B C) (hE : RepE C g a) {x : Operand} {ax : AX} (ho : o.op = .move x ∨ o.op = .assign x) (hx : cX x = some ax) :
    Does P o a C.w (Owes B C (evX g ax) []) := by
  refine does_same hI ?_ (cX_rep hE hx)
  rcases ho with ho | ho <;> simp [execOp, ho]

theorem op_pick (hI : Inv B C) (hE : RepE C g a) {c x y : Operand} {ac ax ay : AX} (ho : o.op = .pick c x y) (hc : cX c = some ac) (hx : cX x = some ax) (hy : cX y = some ay)
    {t : Bool} (ht : evX g ac = .dat (.bool t)) : Does P o a C.w (Owes B C (if t then evX g ax else evX g ay) []) := by
  have h1 := cX_rep hE hc
  rw [ht] at h1
  simp only [RepA] at h1
  have h2 := h1.cell rfl
  simp [RepD] at h2
  refine does_same (val := if t then a.eval x else a.eval y) hI ?_ ?_
  · simp only [execOp, ho, Sem.run_bind, h2, asBool, Sem.run_pure, Result.andThen_ok]
  · cases t
    · exact cX_rep hE hy
    · exact cX_rep hE hx

theorem op_nilChk (hI : Inv B C) (hE : RepE C g a) {x : Operand} {ax : AX} (ho : o.op = .nilCheck x) (hx : cX x = some ax)
    (hp : (∃ id off, evX g ax = .ref id off) ∨ (∃ id ver i off, evX g ax = .eref id ver i off) ∨ (∃ l, evX g ax = .fp l)) :
    Does P o a C.w (Owes B C (evX g ax) []) := by
  have h1 := cX_rep hE hx
  have : ∃ p, a.eval x = .pointer (some p) := by
    rcases hp with ⟨id, off, e⟩ | ⟨id, ver, i, off, e⟩ | ⟨l, e⟩ <;> rw [e] at h1 <;> simp only [RepA] at h1
    · obtain ⟨L, _, h⟩ := h1; exact ⟨_, h⟩
    · obtain ⟨A, p, _, _, h, _⟩ := h1; exact ⟨_, h⟩
    · obtain ⟨b, o, cs, h, _⟩ := h1; exact ⟨_, h⟩
  obtain ⟨p, hp⟩ := this
  exact does_same hI (by simp [execOp, ho, hp]) h1

theorem rep_int {C : Ctx} {k : IntKind} {n : Int} {v : Value} (h : RepA C (.dat (.int k n)) v) : v = .int k n := by
  simp only [RepA] at h
  have := h.cell rfl
  simpa [RepD] using this
theorem rep_bool {C : Ctx} {b : Bool} {v : Value} (h : RepA C (.dat (.bool b)) v) : v = .bool b := by
  simp only [RepA] at h
  have := h.cell rfl
  simpa [RepD] using this
theorem rep_str {C : Ctx} {s : List UInt8} {v : Value} (h : RepA C (.dat (.str s)) v) : v = .string ⟨s.toArray⟩ := by
  simp only [RepA] at h
  have := h.cell rfl
  simpa [RepD] using this
theorem rep_mk_int (C : Ctx) (k : IntKind) (n : Int) : RepA C (.dat (.int k n)) (.int k n) := by simp [RepA, RepV, RepD, Value.cells, isAggV]
theorem rep_mk_bool (C : Ctx) (b : Bool) : RepA C (.dat (.bool b)) (.bool b) := by simp [RepA, RepV, RepD, Value.cells, isAggV]
theorem rep_mk_str (C : Ctx) (s : List UInt8) : RepA C (.dat (.str s)) (.string ⟨s.toArray⟩) := by simp [RepA, RepV, RepD, Value.cells, isAggV]

theorem toList_mk (l : List UInt8) : (⟨l.toArray⟩ : ByteArray).toList = l := by
  rw [ByteArray.toList_eq]

theorem intE_run (C : Ctx) {op : BinOp} {k : IntKind} {x y : Int} {v : AVal} (h : intE op k x y = some v) (hs : op ≠ .shl ∧ op ≠ .shr) (t : TypeId) (w : World) :
    ∃ val, (binOp op t (.int k x) (.int k y)).run P w = .ok val w ∧ RepA C v val := by
  cases op <;> simp only [intE, Option.some.injEq, reduceCtorEq, Option.ite_none_left_eq_some] at h
  case add => subst h; exact ⟨_, by simp [binOp, Op.intArith], rep_mk_int _ _ _⟩
  case sub => subst h; exact ⟨_, by simp [binOp, Op.intArith], rep_mk_int _ _ _⟩
  case mul => subst h; exact ⟨_, by simp [binOp, Op.intArith], rep_mk_int _ _ _⟩
  case quo => obtain ⟨h1, h⟩ := h; subst h; exact ⟨_, by simp [binOp, Op.intDiv, h1], rep_mk_int _ _ _⟩
  case rem => obtain ⟨h1, h⟩ := h; subst h; exact ⟨_, by simp [binOp, Op.intDiv, h1], rep_mk_int _ _ _⟩
  case and => subst h; exact ⟨_, by simp only [binOp, ne_eq, not_true_eq_false, if_false, Op.intBits]; exact Sem.run_pure P w _, rep_mk_int _ _ _⟩
  case or => subst h; exact ⟨_, by simp only [binOp, ne_eq, not_true_eq_false, if_false, Op.intBits]; exact Sem.run_pure P w _, rep_mk_int _ _ _⟩
  case xor => subst h; exact ⟨_, by simp only [binOp, ne_eq, not_true_eq_false, if_false, Op.intBits]; exact Sem.run_pure P w _, rep_mk_int _ _ _⟩
  case andNot => subst h; exact ⟨_, by simp only [binOp, ne_eq, not_true_eq_false, if_false, Op.intBits]; exact Sem.run_pure P w _, rep_mk_int _ _ _⟩
  case eql => subst h; exact ⟨_, by simp only [binOp, ne_eq, not_true_eq_false, if_false, Op.intCmp]; exact Sem.run_pure P w _, rep_mk_bool _ _⟩
  case neq => subst h; exact ⟨_, by simp only [binOp, ne_eq, not_true_eq_false, if_false, Op.intCmp]; exact Sem.run_pure P w _, by exact rep_mk_bool _ _⟩
  case lss => subst h; exact ⟨_, by simp only [binOp, ne_eq, not_true_eq_false, if_false, Op.intCmp]; exact Sem.run_pure P w _, rep_mk_bool _ _⟩
  case leq => subst h; exact ⟨_, by simp only [binOp, ne_eq, not_true_eq_false, if_false, Op.intCmp]; exact Sem.run_pure P w _, rep_mk_bool _ _⟩
  case gtr => subst h; exact ⟨_, by simp only [binOp, ne_eq, not_true_eq_false, if_false, Op.intCmp]; exact Sem.run_pure P w _, rep_mk_bool _ _⟩
  case geq => subst h; exact ⟨_, by simp only [binOp, ne_eq, not_true_eq_false, if_false, Op.intCmp]; exact Sem.run_pure P w _, rep_mk_bool _ _⟩

theorem shiftE_run (C : Ctx) {op : BinOp} {k k' : IntKind} {x y : Int} {v : AVal} (h : shiftE op k x y = some v) (t : TypeId) (w : World) :
    ∃ val, (binOp op t (.int k x) (.int k' y)).run P w = .ok val w ∧ RepA C v val := by
  unfold shiftE at h
  split at h
  · cases h
  · rename_i hy
    cases op <;> simp at h
    case shl => subst h; exact ⟨_, by simp only [binOp, Op.shift, hy, if_false]; exact Sem.run_pure P w _, rep_mk_int _ _ _⟩
    case shr => subst h; exact ⟨_, by simp only [binOp, Op.shift, hy, if_false]; exact Sem.run_pure P w _, rep_mk_int _ _ _⟩

theorem strE_run (C : Ctx) {op : BinOp} {x y : List UInt8} {v : AVal} (h : strE op x y = some v) (t : TypeId) (w : World) :
    ∃ val, (binOp op t (.string ⟨x.toArray⟩) (.string ⟨y.toArray⟩)).run P w = .ok val w ∧ RepA C v val := by
  cases op <;> simp only [strE, Option.some.injEq, reduceCtorEq, Option.ite_none_right_eq_some] at h
  case add =>
    obtain ⟨h1, h⟩ := h
    subst h
    refine ⟨.string (⟨x.toArray⟩ ++ ⟨y.toArray⟩), ?_, ?_⟩
    · have hb : ¬ (((x.length + y.length : Nat) : Int) > IntKind.i64.max) := by
        have : IntKind.i64.max = 9223372036854775807 := by decide
        omega
      simp only [binOp, Op.stringOp]
      rw [if_neg]
      · rfl
      · simpa [ByteArray.size] using hb
    · have : (⟨x.toArray⟩ ++ ⟨y.toArray⟩ : ByteArray) = ⟨(x ++ y).toArray⟩ := by
        apply ByteArray.ext
        simp
      rw [this]
      exact rep_mk_str _ _
  all_goals (subst h; exact ⟨_, by simp only [binOp, Op.stringOp, toList_mk]; exact Sem.run_pure P w _, rep_mk_bool _ _⟩)

theorem nilPE_ptr {x : AVal} {b : Bool} {v : Value} (h : nilPE x = some b) (hr : RepA C x v) : (b = true ∧ v = .pointer none) ∨ (b = false ∧ ∃ p, v = .pointer (some p)) := by
  cases x <;> simp [nilPE] at h <;> subst h <;> simp only [RepA] at hr
  · exact .inl ⟨rfl, hr⟩
  · obtain ⟨L, _, h⟩ := hr; exact .inr ⟨rfl, _, h⟩
  · obtain ⟨A, p, _, _, h, _⟩ := hr; exact .inr ⟨rfl, _, h⟩
  · obtain ⟨b, o, cs, h, _⟩ := hr; exact .inr ⟨rfl, _, h⟩


def plainV : Value → Bool
  | .int _ _ | .bool _ | .string _ | .pointer _ | .slice _ _ _ => true
  | _ => false

theorem eqGuard_run (op : BinOp) (t : TypeId) (x y : Operand) {u v : Value} (hu : plainV u = true) (w : World) : (eqGuard op t x y u v).run P w = .ok () w := by
  unfold eqGuard
  cases u <;> simp [plainV] at hu <;> cases op <;> simp

theorem eqlIn_ptr {t e : TypeId} (h : P.underlying t = some (.pointer e)) (d : Nat) (w : World) (p q : Option Addr) (hn : p = none ∨ q = none) :
    (Op.equalIn (d + 1) t (.pointer p) (.pointer q)).run P w = .ok (p.isNone && q.isNone) w := by
  rcases hn with hn | hn <;> subst hn
  · cases q <;> simp only [Op.equalIn, Sem.run_bind, run_underlying h, Result.andThen_ok] <;> rfl
  · cases p <;> simp only [Op.equalIn, Sem.run_bind, run_underlying h, Result.andThen_ok] <;> rfl

theorem run_eqlPtr {t e : TypeId} (h : P.underlying t = some (.pointer e)) (w : World) (p q : Option Addr) (hn : p = none ∨ q = none) :
    (Op.equal t (.pointer p) (.pointer q)).run P w = .ok (p.isNone && q.isNone) w := eqlIn_ptr h 9999 w p q hn

theorem eqlIn_slc {t e : TypeId} (h : P.underlying t = some (.slice e)) (d : Nat) (w : World) (p : Option Addr) (n c : Nat) :
    (Op.equalIn (d + 1) t (.slice p n c) (.slice none 0 0)).run P w = .ok p.isNone w := by
  cases p <;> simp only [Op.equalIn, Sem.run_bind, run_underlying h, Result.andThen_ok] <;> rfl

theorem run_eqlSlc {t e : TypeId} (h : P.underlying t = some (.slice e)) (w : World) (p : Option Addr) (n c : Nat) :
    (Op.equal t (.slice p n c) (.slice none 0 0)).run P w = .ok p.isNone w := eqlIn_slc h 9999 w p n c

theorem eqlIn_bool {t : TypeId} (h : P.underlying t = some .bool) (d : Nat) (w : World) (x y : Bool) :
    (Op.equalIn (d + 1) t (.bool x) (.bool y)).run P w = .ok (x == y) w := by
  simp only [Op.equalIn, Sem.run_bind, run_underlying h, Result.andThen_ok] <;> rfl

theorem run_eqlBool {t : TypeId} (h : P.underlying t = some .bool) (w : World) (x y : Bool) :
    (Op.equal t (.bool x) (.bool y)).run P w = .ok (x == y) w := eqlIn_bool h 9999 w x y

theorem nilSE_slc {x : AVal} {b : Bool} {v : Value} (h : nilSE x = some b) (hr : RepA C x v) : ∃ p n c, v = .slice p n c ∧ p.isNone = b := by
  unfold nilSE at h
  split at h <;> simp at h <;> subst h <;> simp only [RepA] at hr
  · exact ⟨none, 0, 0, hr, rfl⟩
  · obtain ⟨p, c, h1, h2⟩ := hr
    exact ⟨p, 0, c, h1, h2⟩
  · have := hr.cell rfl
    simp only [RepD] at this
    obtain ⟨a, cap, h1, _, h3⟩ := this
    simp at h1
    rcases h3 with h3 | ⟨b, o, sz, ha, _⟩
    · simp at h3
    · subst ha; exact ⟨_, _, _, h1, rfl⟩
  · obtain ⟨A, p, cap, h1, h2, h3, h4, h5, _⟩ := hr
    have := h5 (by omega)
    cases p with
    | none => simp at this
    | some p => exact ⟨_, _, _, h3, rfl⟩
  · obtain ⟨b, o, cap, cs, h1, _⟩ := hr
    exact ⟨_, _, _, h1, rfl⟩

theorem cmpE_run (C : Ctx) {op : BinOp} {b : Bool} {v : AVal} (h : cmpE op b = some v) {t : TypeId} {x y : Value} {w : World} (hr : (Op.equal t x y).run P w = .ok b w)
    (hx : ∀ k n, x ≠ .int k n) (hx2 : ∀ k n, x ≠ .float k n) (hx3 : ∀ k n m, x ≠ .complex k n m) (hx4 : ∀ s, x ≠ .string s) : ∃ val, (binOp op t x y).run P w = .ok val w ∧ RepA C v val := by
  cases op <;> simp only [cmpE, Option.some.injEq, reduceCtorEq] at h
  case eql =>
    subst h
    refine ⟨.bool b, ?_, rep_mk_bool _ _⟩
    unfold binOp
    split <;> simp_all
  case neq =>
    subst h
    refine ⟨.bool !b, ?_, rep_mk_bool _ _⟩
    unfold binOp
    split <;> simp_all

theorem op_bin (hI : Inv B C) (hE : RepE C g a) {op : BinOp} {t u : TypeId} {x y : Operand} {ax ay : AX} {bk : BK} {v : AVal} (ho : o.op = .binOp op t x y u) (hbk : bkOf P t = some bk)
    (hx : cX x = some ax) (hy : cX y = some ay) (h : binE bk op (evX g ax) (evX g ay) = some v) : Does P o a C.w (Owes B C v []) := by
  have h1 := cX_rep hE hx
  have h2 := cX_rep hE hy
  suffices hs : plainV (a.eval x) = true ∧ ∃ val, (binOp op t (a.eval x) (a.eval y)).run P C.w = .ok val C.w ∧ RepA C v val by
    obtain ⟨hp, val, hr, hv⟩ := hs
    refine does_same hI ?_ hv
    simp only [execOp, ho, Sem.run_bind, eqGuard_run op t x y hp, Result.andThen_ok, hr, Sem.run_pure]
  generalize evX g ax = X at h h1
  generalize evX g ay = Y at h h2
  unfold binE at h
  split at h
  · rename_i k x' k' y'
    have e1 := rep_int h1
    have e2 := rep_int h2
    rw [e1, e2]
    refine ⟨rfl, ?_⟩
    split at h
    · exact shiftE_run C h t C.w
    · exact shiftE_run C h t C.w
    · rename_i hs1 hs2
      split at h
      · rename_i hk
        subst hk
        exact intE_run C h ⟨hs1, hs2⟩ t C.w
      · cases h
  · rename_i x' y'
    have e1 := rep_bool h1
    have e2 := rep_bool h2
    rw [e1, e2]
    refine ⟨rfl, ?_⟩
    have hu : P.underlying t = some .bool := by
      unfold bkOf at hbk
      split at hbk <;> simp_all
    have hq := run_eqlBool hu C.w x' y'
    have hc : cmpE op (x' == y') = some v := by cases op <;> simp_all [boolE, cmpE]
    exact cmpE_run C hc hq (by simp) (by simp) (by simp) (by simp)
  · rename_i x' y'
    have e1 := rep_str h1
    have e2 := rep_str h2
    rw [e1, e2]
    exact ⟨rfl, strE_run C h t C.w⟩
  · rename_i X'
    have e2 : a.eval y = .pointer none := by simpa only [RepA] using h2
    obtain ⟨e, hu⟩ : ∃ e, P.underlying t = some (.pointer e) := by
      unfold bkOf at hbk
      split at hbk <;> simp_all
    split at h
    · rename_i b hb
      rw [e2]
      rcases nilPE_ptr hb h1 with ⟨hb1, hb2⟩ | ⟨hb1, p, hb2⟩
      · rw [hb2]
        subst hb1
        exact ⟨rfl, cmpE_run C h (run_eqlPtr hu C.w none none (.inl rfl)) (by simp) (by simp) (by simp) (by simp)⟩
      · rw [hb2]
        subst hb1
        exact ⟨rfl, cmpE_run C h (run_eqlPtr hu C.w (some p) none (.inr rfl)) (by simp) (by simp) (by simp) (by simp)⟩
    · cases h
  · rename_i Y' _
    have e1 : a.eval x = .pointer none := by simpa only [RepA] using h1
    obtain ⟨e, hu⟩ : ∃ e, P.underlying t = some (.pointer e) := by
      unfold bkOf at hbk
      split at hbk <;> simp_all
    split at h
    · rename_i b hb
      rw [e1]
      rcases nilPE_ptr hb h2 with ⟨hb1, hb2⟩ | ⟨hb1, p, hb2⟩
      · rw [hb2]
        subst hb1
        exact ⟨rfl, cmpE_run C h (run_eqlPtr hu C.w none none (.inl rfl)) (by simp) (by simp) (by simp) (by simp)⟩
      · rw [hb2]
        subst hb1
        exact ⟨rfl, cmpE_run C h (run_eqlPtr hu C.w none (some p) (.inl rfl)) (by simp) (by simp) (by simp) (by simp)⟩
    · cases h
  · rename_i X'
    have e2 : a.eval y = .slice none 0 0 := by simpa only [RepA] using h2
    obtain ⟨e, hu⟩ : ∃ e, P.underlying t = some (.slice e) := by
      unfold bkOf at hbk
      split at hbk <;> simp_all
    split at h
    · rename_i b hb
      rw [e2]
      obtain ⟨p, n, c, hv, hb2⟩ := nilSE_slc hb h1
      rw [hv]
      subst hb2
      exact ⟨rfl, cmpE_run C h (run_eqlSlc hu C.w p n c) (by simp) (by simp) (by simp) (by simp)⟩
    · cases h
  · cases h

theorem op_un (hI : Inv B C) (hE : RepE C g a) {op : UnOp} {t : TypeId} {x : Operand} {ax : AX} {v : AVal} (ho : o.op = .unOp op t x) (hx : cX x = some ax)
    (h : unE op (evX g ax) = some v) : Does P o a C.w (Owes B C v []) := by
  have h1 := cX_rep hE hx
  generalize evX g ax = X at h h1
  unfold unE at h
  split at h
  · rename_i k n
    simp only [Option.some.injEq] at h
    subst h
    refine does_same hI ?_ (rep_mk_int C k _)
    simp [execOp, ho, rep_int h1, Op.unary, Op.intArith]
  · rename_i k n
    simp only [Option.some.injEq] at h
    subst h
    refine does_same hI ?_ (rep_mk_int C k _)
    simp only [execOp, ho, rep_int h1, Op.unary, Op.intBits]
    rfl
  · rename_i b
    simp only [Option.some.injEq] at h
    subst h
    refine does_same hI ?_ (rep_mk_bool C _)
    simp [execOp, ho, rep_bool h1, Op.unary]
  · cases h

theorem op_cvt (hI : Inv B C) (hE : RepE C g a) {s d : TypeId} {k k' k'' : IntKind} {x : Operand} {ax : AX} {n : Int} (ho : o.op = .convert s d x) (hx : cX x = some ax)
    (hs : P.underlying s = some (.int k')) (hd : P.underlying d = some (.int k)) (h : evX g ax = .dat (.int k'' n)) : Does P o a C.w (Owes B C (.dat (.int k (k.wrap n))) []) := by
  have h1 := cX_rep hE hx
  rw [h] at h1
  refine does_same hI ?_ (rep_mk_int C k _)
  simp [execOp, ho, rep_int h1, convert, run_underlying hs, run_underlying hd, Conv.intToInt]

theorem fieldT_spec {t : TypeId} {f off : Nat} {q : TI} (h : fieldT P t f = some (off, q)) : ∃ fs fd, P.underlying t = some (.struct fs) ∧ fs[f]? = some fd ∧ tI P fd.type = some q ∧ fd.offset = off := by
  unfold fieldT at h
  split at h
  · rename_i fs hu
    split at h
    · rename_i fd hf
      cases e : tI P fd.type with
      | none => simp [e] at h
      | some q' => simp [e] at h; exact ⟨fs, fd, hu, hf, by rw [e, h.2], h.1⟩
    · cases h
  · cases h

theorem ptrAdd_rep {n : Nat} {x v : AVal} {val : Value} (h : ptrAdd n x = some v) (hr : RepA C x val) : ∃ p, val = .pointer (some p) ∧ RepA C v (.pointer (some (p.add n))) := by
  cases x <;> simp [ptrAdd] at h
  case ref id off =>
    subst h
    simp only [RepA] at hr
    obtain ⟨L, h1, h2⟩ := hr
    refine ⟨_, h2, ?_⟩
    simp only [RepA]
    exact ⟨L, h1, by rw [Addr.add_mk, Nat.add_assoc]⟩
  case eref id ver i off =>
    subst h
    simp only [RepA] at hr
    obtain ⟨A, p, h1, h2, h3, h4⟩ := hr
    refine ⟨_, h3, ?_⟩
    simp only [RepA]
    refine ⟨A, _, h1, h2, rfl, fun e => ⟨(h4 e).1, ?_⟩⟩
    rw [(h4 e).2, Addr.add_mk, Nat.add_assoc]
  case fp l =>
    obtain ⟨hn, h⟩ := h
    subst h
    simp only [RepA] at hr
    obtain ⟨b, o, cs, h1, h2, h3⟩ := hr
    refine ⟨_, h1, ?_⟩
    simp only [RepA]
    refine ⟨b, o + n, cs.drop n, by rw [Addr.add_mk], h2.drop n, fun j v hj => ?_⟩
    rw [List.getElem?_drop] at hj
    have := h3 _ _ hj
    rwa [← Nat.add_assoc] at this

theorem op_fAddr (hI : Inv B C) (hE : RepE C g a) {t : TypeId} {x : Operand} {f off : Nat} {q : TI} {ax : AX} {v : AVal} (ho : o.op = .fieldAddr t x f) (hx : cX x = some ax)
    (hf : fieldT P t f = some (off, q)) (hq : q.size ≠ 0) (h : ptrAdd off (evX g ax) = some v) : Does P o a C.w (Owes B C v []) := by
  obtain ⟨p, h1, h2⟩ := ptrAdd_rep h (cX_rep hE hx)
  obtain ⟨fs, fd, hu, hfd, hti, hoff⟩ := fieldT_spec hf
  refine does_same hI ?_ h2
  simp [execOp, ho, Instr.fieldAt, run_underlying hu, hfd, h1, Instr.sureAddr, fieldPlace, run_sizeOf hti, hq, hoff]

theorem run_part {t : TypeId} {q : TI} (h : tI P t = some q) (cs : Array Value) (off : Nat) (w : World) (hn : q.agg = false → off < cs.size) :
    (part t cs off).run P w = .ok (if q.agg then .agg (cs.extract off (off + q.size)) else cs.getD off undef) w := by
  unfold part
  simp only [Sem.run_bind, run_isAgg h, Result.andThen_ok]
  cases e : q.agg
  · have := hn e
    simp [this]
  · simp [run_sizeOf h]

theorem partE_rep {agg : Bool} {off n : Nat} {x v : AVal} {val : Value} (h : partE agg off n x = some v) (hn : 1 ≤ n) (hr : RepA C x val) :
    ∃ cs : Array Value, val = .agg cs ∧ off < cs.size ∧ RepA C v (if agg then .agg (cs.extract off (off + n)) else cs.getD off undef) := by
  unfold partE at h
  split at h
  · rename_i l
    split at h
    · rename_i hb
      simp only [RepA] at hr
      obtain ⟨cs, h1, h2, h3, h4⟩ := hr
      have hl : cs.size = l.length := by have := h2.length; simpa using this
      refine ⟨cs, h1, by omega, ?_⟩
      cases agg
      · simp only [Bool.false_eq_true, if_false] at h ⊢
        obtain ⟨c, hc, hr⟩ := h2.get h
        have : cs.getD off undef = c := by
          have : cs[off]? = some c := by simpa using hc
          simp [Array.getD_eq_getD_getElem?, this]
        rw [this]; exact hr
      · simp only [if_true, Option.some.injEq] at h ⊢
        subst h
        simp only [RepA]
        refine ⟨_, rfl, ?_, ?_, ?_⟩
        · have := (h2.drop off).take n
          simpa [Array.toList_extract, List.extract_eq_take_drop] using this
        · rw [List.all_eq_true] at h3 ⊢
          exact fun x hx => h3 x (List.mem_of_mem_drop (List.mem_of_mem_take hx))
        · intro c hc
          have : c ∈ ((cs.toList.drop off).take n) := by
            have := Array.mem_toList_iff.2 hc
            simpa [Array.toList_extract, List.extract_eq_take_drop] using this
          exact h4 c (Array.mem_toList_iff.1 (List.mem_of_mem_drop (List.mem_of_mem_take this)))
    · cases h
  · rename_i l
    split at h
    · rename_i hb
      simp only [RepA] at hr
      obtain ⟨cs, h1, h2⟩ := hr.agg
      have hl : cs.size = l.length := by have := h2.length; simpa using this
      refine ⟨cs, h1, by omega, ?_⟩
      cases agg
      · simp only [Bool.false_eq_true, if_false] at h ⊢
        cases e : l[off]? with
        | none => simp [e] at h
        | some d =>
          simp [e] at h
          subst h
          obtain ⟨c, hc, hd, hr⟩ := h2.get e
          have : cs.getD off undef = c := by
            have : cs[off]? = some c := by simpa using hc
            simp [Array.getD_eq_getD_getElem?, this]
          rw [this]
          exact repV_leaf hd hr
      · simp only [if_true, Option.some.injEq] at h ⊢
        subst h
        simp only [RepA]
        refine repV_agg ?_
        have := (h2.drop off).take n
        simpa [Array.toList_extract, List.extract_eq_take_drop] using this
    · cases h
  · cases h

theorem op_fld (hI : Inv B C) (hE : RepE C g a) {t : TypeId} {x : Operand} {f off : Nat} {q : TI} {ax : AX} {v : AVal} (ho : o.op = .field t x f) (hx : cX x = some ax)
    (hf : fieldT P t f = some (off, q)) (hq : 1 ≤ q.size) (h : partE q.agg off q.size (evX g ax) = some v) : Does P o a C.w (Owes B C v []) := by
  obtain ⟨cs, h1, h2, h3⟩ := partE_rep h hq (cX_rep hE hx)
  obtain ⟨fs, fd, hu, hfd, hti, hoff⟩ := fieldT_spec hf
  refine does_same hI ?_ h3
  simp [execOp, ho, Instr.field, run_underlying hu, hfd, h1, asAgg, hoff, run_part hti cs off C.w (fun _ => h2)]

theorem intOf_rep {x : AVal} {n : Int} {v : Value} (h : intOf? x = some n) (hr : RepA C x v) : ∃ k, v = .int k n := by
  unfold intOf? at h
  split at h
  · simp at h; subst h; exact ⟨_, rep_int hr⟩
  · cases h

theorem iAddrE_rep {sz : Nat} {x v : AVal} {i : Int} {val : Value} (h : iAddrE sz x i = some v) (hr : RepA C x val) :
    ∃ p len cap, val = .slice (some p) len cap ∧ 0 ≤ i ∧ i < len ∧ RepA C v (.pointer (some (p.add (i.toNat * sz)))) := by
  unfold iAddrE at h
  split at h
  · rename_i id ver sz' off len
    split at h
    · rename_i hc
      obtain ⟨rfl, h0, h1⟩ := hc
      simp only [Option.some.injEq] at h
      subst h
      simp only [RepA] at hr
      obtain ⟨A, p, cap, h2, h3, h4, h5, h6, h7⟩ := hr
      have hp := h6 (by omega)
      cases p with
      | none => simp at hp
      | some p =>
        refine ⟨p, len, cap, h4, h0, h1, ?_⟩
        simp only [RepA]
        refine ⟨A, _, h2, h3, rfl, fun e => ?_⟩
        obtain ⟨g1, g2, g3, g4⟩ := h7 e
        have := g4 (by omega)
        simp only [Option.some.injEq] at this
        refine ⟨by omega, ?_⟩
        rw [this, Addr.add_mk]
        congr 1
        rw [← g1, Nat.add_mul]
        omega
    · cases h
  · rename_i l
    split at h
    · rename_i h0
      cases e : l[i.toNat]? with
      | none => simp [e] at h
      | some d =>
        simp only [e] at h
        split at h
        · rename_i hw
          simp only [Option.some.injEq] at h
          subst h
          simp only [RepA] at hr
          have := hr.cell rfl
          simp only [RepD] at this
          obtain ⟨a', cap, q1, q2, q3⟩ := this
          simp only [List.cons.injEq, and_true] at q1
          have hlt : i.toNat < l.length := (List.getElem?_eq_some_iff.1 e).1
          rcases q3 with q3 | ⟨b, o, sz', ha, hrow⟩
          · subst q3; simp at hlt
          · subst ha
            obtain ⟨cs, r1, r2, r3⟩ := hrow.get e
            have hsz : sz' = sz := by rw [← r1, r2.length, hw]
            subst hsz
            refine ⟨_, _, _, q1, h0, by omega, ?_⟩
            simp only [RepA]
            exact ⟨b, _, cs, by rw [Addr.add_mk], r2.cellsAgg, r3⟩
        · cases h
    · cases h
  · cases h

theorem op_iAddr (hI : Inv B C) (hE : RepE C g a) {t e : TypeId} {x i : Operand} {q : TI} {ax ai : AX} {v : AVal} {n : Int} (ho : o.op = .indexAddr t x i) (hx : cX x = some ax) (hi : cX i = some ai)
    (ht : P.underlying t = some (.slice e)) (hq : tI P e = some q) (hn : intOf? (evX g ai) = some n) (h : iAddrE q.size (evX g ax) n = some v) : Does P o a C.w (Owes B C v []) := by
  obtain ⟨p, len, cap, h1, h2, h3, h4⟩ := iAddrE_rep h (cX_rep hE hx)
  obtain ⟨k, hk⟩ := intOf_rep hn (cX_rep hE hi)
  refine does_same hI ?_ h4
  simp [execOp, ho, Instr.indexAt, hk, asIntOf, run_underlying ht, h1, h2, h3, run_sizeOf hq]

theorem op_iAddrA (hI : Inv B C) (hE : RepE C g a) {t e : TypeId} {m : Nat} {x i : Operand} {q : TI} {ax ai : AX} {v : AVal} {n : Int} (ho : o.op = .indexAddr t x i) (hx : cX x = some ax) (hi : cX i = some ai)
    (ht : P.underlying t = some (.array m e)) (hq : tI P e = some q) (hn : intOf? (evX g ai) = some n) (hb : 0 ≤ n ∧ n < m) (h : ptrAdd (n.toNat * q.size) (evX g ax) = some v) : Does P o a C.w (Owes B C v []) := by
  obtain ⟨p, h1, h2⟩ := ptrAdd_rep h (cX_rep hE hx)
  obtain ⟨k, hk⟩ := intOf_rep hn (cX_rep hE hi)
  refine does_same hI ?_ h2
  simp [execOp, ho, Instr.indexAt, hk, asIntOf, run_underlying ht, h1, hb.1, hb.2, Instr.sureAddr, run_sizeOf hq]

theorem op_idx (hI : Inv B C) (hE : RepE C g a) {t e : TypeId} {m : Nat} {x i : Operand} {q : TI} {ax ai : AX} {v : AVal} {n : Int} (ho : o.op = .index t x i) (hx : cX x = some ax) (hi : cX i = some ai)
    (ht : P.underlying t = some (.array m e)) (hq : tI P e = some q) (hq1 : 1 ≤ q.size) (hn : intOf? (evX g ai) = some n) (hb : 0 ≤ n ∧ n < m) (h : partE q.agg (n.toNat * q.size) q.size (evX g ax) = some v) : Does P o a C.w (Owes B C v []) := by
  obtain ⟨cs, h1, h2, h3⟩ := partE_rep h hq1 (cX_rep hE hx)
  obtain ⟨k, hk⟩ := intOf_rep hn (cX_rep hE hi)
  refine does_same hI ?_ h3
  simp [execOp, ho, Instr.index, hk, asIntOf, run_underlying ht, h1, hb.1, hb.2, run_sizeOf hq, run_part hq cs _ C.w (fun _ => h2)]

theorem op_idxS (hI : Inv B C) (hE : RepE C g a) {t : TypeId} {x i : Operand} {ax ai : AX} {n : Int} {s : List UInt8} {b : UInt8} (ho : o.op = .index t x i) (hx : cX x = some ax) (hi : cX i = some ai)
    (ht : P.underlying t = some .string) (hn : intOf? (evX g ai) = some n) (hs : evX g ax = .dat (.str s)) (h0 : 0 ≤ n) (hb : s[n.toNat]? = some b) : Does P o a C.w (Owes B C (.dat (.int .u8 b.toNat)) []) := by
  have h1 := cX_rep hE hx
  rw [hs] at h1
  obtain ⟨k, hk⟩ := intOf_rep hn (cX_rep hE hi)
  refine does_same hI ?_ (rep_mk_int C _ _)
  have hlt := (List.getElem?_eq_some_iff.1 hb).1
  have hsz : n.toNat < (ByteArray.mk s.toArray).size := by simpa [ByteArray.size] using hlt
  have hget : (ByteArray.mk s.toArray)[n.toNat]? = some b := by
    rw [getElem?_pos (ByteArray.mk s.toArray) n.toNat hsz]
    have h2 := (List.getElem?_eq_some_iff.1 hb).2
    simpa [ByteArray.getElem_eq_getElem_data] using h2
  simp [execOp, ho, Instr.index, hk, asIntOf, run_underlying ht, rep_str h1, h0, hget]

theorem op_ext (hI : Inv B C) (hE : RepE C g a) {x : Operand} {i : Nat} {ax : AX} {v : AVal} {l : List AVal} (ho : o.op = .extract x i) (hx : cX x = some ax) (hl : evX g ax = .tup l) (hv : l[i]? = some v) :
    Does P o a C.w (Owes B C v []) := by
  have h1 := cX_rep hE hx
  rw [hl] at h1
  simp only [RepA] at h1
  obtain ⟨cs, h2, h3⟩ := h1
  obtain ⟨c, h4, h5⟩ := h3.get hv
  refine does_same hI ?_ h5
  have : cs[i]? = some c := by simpa using h4
  simp [execOp, ho, Instr.extract, h2, this]

theorem lenE_rep {x v : AVal} {val : Value} (h : lenE x = some v) (hr : RepA C x val) : ∃ p n c, val = .slice p n c ∧ v = .dat (.int .i64 n) := by
  unfold lenE at h
  split at h <;> simp only [Option.some.injEq, reduceCtorEq] at h <;> subst h <;> simp only [RepA] at hr
  · obtain ⟨A, p, cap, _, _, h4, _⟩ := hr
    exact ⟨_, _, _, h4, rfl⟩
  · have := hr.cell rfl
    simp only [RepD] at this
    obtain ⟨a, cap, h1, _⟩ := this
    simp only [List.cons.injEq, and_true] at h1
    exact ⟨_, _, _, h1, rfl⟩
  · exact ⟨none, 0, 0, hr, rfl⟩
  · obtain ⟨p, c, h1, h2⟩ := hr
    exact ⟨p, 0, c, h1, rfl⟩
  · obtain ⟨b, o, cap, cs, h1, _⟩ := hr
    exact ⟨_, _, _, h1, rfl⟩

theorem op_len (hI : Inv B C) (hE : RepE C g a) {c : Call} {x : Operand} {ax : AX} {v : AVal} {t e : TypeId} (ho : o.op = .call c) (hc : c.callee = .builtin .len) (ha : c.args = #[x]) (ht : c.argTypes[0]? = some t)
    (hu : P.underlying t = some (.slice e)) (hx : cX x = some ax) (h : lenE (evX g ax) = some v) : Does P o a C.w (Owes B C v []) := by
  obtain ⟨p, n, cc, h1, rfl⟩ := lenE_rep h (cX_rep hE hx)
  refine does_same hI ?_ (rep_mk_int C _ _)
  have hrun : (Builtin.len_ c.argTypes o.type #[a.eval x]).run P C.w = .ok (.int .i64 n) C.w := by
    unfold Builtin.len_
    simp [ht, h1, run_underlying hu, goInt]
  simp [execOp, ho, resolve, hc, ha, invoke, builtin, hrun]

theorem op_lenS (hI : Inv B C) (hE : RepE C g a) {c : Call} {x : Operand} {ax : AX} {v : AVal} {t : TypeId} (ho : o.op = .call c) (hc : c.callee = .builtin .len) (ha : c.args = #[x]) (ht : c.argTypes[0]? = some t)
    (hu : P.underlying t = some .string) (hx : cX x = some ax) (h : lenS (evX g ax) = some v) : Does P o a C.w (Owes B C v []) := by
  have hr := cX_rep hE hx
  unfold lenS at h
  split at h
  · rename_i s hs
    rw [hs] at hr
    simp only [Option.some.injEq] at h
    subst h
    refine does_same hI ?_ (rep_mk_int C _ _)
    have hrun : (Builtin.len_ c.argTypes o.type #[a.eval x]).run P C.w = .ok (.int .i64 s.length) C.w := by
      unfold Builtin.len_
      simp only [ht, rep_str hr]
      simp [run_underlying hu, goInt]
      rfl
    simp [execOp, ho, resolve, hc, ha, invoke, builtin, hrun]
  · cases h

theorem mmE_run {isMax : Bool} {x y v : AVal} {u w' : Value} (h : mmE isMax x y = some v) (hx : RepA C x u) (hy : RepA C y w') (w : World) :
    ∃ val, (if isMax then Builtin.max2 u w' else Builtin.min2 u w').run P w = .ok val w ∧ RepA C v val := by
  unfold mmE at h
  split at h
  · rename_i k p k' q
    split at h
    · rename_i hk
      subst hk
      rw [rep_int hx, rep_int hy]
      cases isMax
      · simp only [Bool.false_eq_true, if_false, Option.some.injEq] at h ⊢
        subst h
        exact ⟨_, rfl, rep_mk_int _ _ _⟩
      · simp only [if_true, Option.some.injEq] at h ⊢
        subst h
        exact ⟨_, rfl, rep_mk_int _ _ _⟩
    · cases h
  · cases h

theorem mmsE_run {isMax : Bool} : ∀ {r : List AVal} {x v : AVal} {u : Value} {us : List Value}, mmsE isMax x r = some v → RepA C x u → RepL C r us → ∀ (w : World),
    ∃ val, (us.foldlM (if isMax then Builtin.max2 else Builtin.min2) u).run P w = .ok val w ∧ RepA C v val
  | [], x, v, u, us, h, hx, hr, w => by
    simp only [RepL] at hr
    subst hr
    simp only [mmsE] at h
    split at h
    · simp only [Option.some.injEq] at h
      subst h
      exact ⟨u, rfl, hx⟩
    · cases h
  | y :: r, x, v, u, us, h, hx, hr, w => by
    simp only [RepL] at hr
    obtain ⟨c, cs, rfl, h2, h3⟩ := hr
    simp only [mmsE] at h
    split at h
    · rename_i z hz
      obtain ⟨val, h4, h5⟩ := mmE_run (P := P) hz hx h2 w
      obtain ⟨val', h6, h7⟩ := mmsE_run h h5 h3 w
      refine ⟨val', ?_, h7⟩
      have h4' : ((if isMax then Builtin.max2 else Builtin.min2) u c).run P w = .ok val w := by cases isMax <;> simpa using h4
      simp only [List.foldlM_cons, Sem.run_bind, h4', Result.andThen_ok, h6]
    · cases h

theorem op_mm (hI : Inv B C) (hE : RepE C g a) {isMax : Bool} {c : Call} {ax : AX} {r : List AX} {v : AVal} (ho : o.op = .call c) (hc : c.callee = .builtin (if isMax then .max else .min))
    (ha : cXs c.args = some (ax :: r)) (h : mmsE isMax (evX g ax) (r.map (evX g)) = some v) : Does P o a C.w (Owes B C v []) := by
  have hr := cXs_rep (C := C) hE ha
  simp only [List.map_cons, RepL] at hr
  obtain ⟨u, us, h1, h2, h3⟩ := hr
  obtain ⟨val, h4, h5⟩ := mmsE_run (P := P) h h2 h3 C.w
  refine does_same hI ?_ h5
  have hargs : (c.args.map a.eval).toList = u :: us := by simpa using h1
  have hargs' : c.args.map a.eval = (u :: us).toArray := by rw [← hargs]
  cases isMax
  · simp only [Bool.false_eq_true, if_false] at hc h4
    simp [execOp, ho, resolve, hc, invoke, builtin, Builtin.min_, hargs', h4]
  · simp only [if_true] at hc h4
    simp [execOp, ho, resolve, hc, invoke, builtin, Builtin.max_, hargs', h4]

/-- an operand that may be left out -/
def optX (x : Option Operand) : Option (Option AX) :=
  match x with
  | some l => (cX l).map some
  | none => some none

theorem run_sliceBound {v : Value} {k : IntKind} {i : Int} (hv : v = .int k i) (y : Nat) (code : BoundsCode) (h : 0 ≤ i ∧ i ≤ y) (w : World) : (Instr.sliceBound v y code).run P w = .ok i.toNat w := by
  subst hv
  simp [Instr.sliceBound, asIntOf, h.1, h.2]

theorem run_sliceBounds (isSlice : Bool) (len cap : Nat) {lo hi : Option Value} {l h : Int} (w : World)
    (hlo : (lo = none ∧ l = 0) ∨ ∃ k, lo = some (.int k l)) (hhi : (hi = none ∧ h = len) ∨ ∃ k, hi = some (.int k h)) (hb : 0 ≤ l ∧ l ≤ h ∧ h ≤ cap) :
    (Instr.sliceBounds isSlice len cap lo hi none).run P w = .ok (l.toNat, h.toNat, cap) w := by
  have hs1 : ∀ (k : IntKind) (y : Nat) (code : BoundsCode), (y : Int) = h → (Instr.sliceBound (.int k l) y code).run P w = .ok l.toNat w := fun k y code hy => run_sliceBound rfl y code ⟨hb.1, by omega⟩ w
  have hs2 : ∀ (k : IntKind) (code : BoundsCode), (Instr.sliceBound (.int k h) cap code).run P w = .ok h.toNat w := fun k code => run_sliceBound rfl cap code ⟨by omega, hb.2.2⟩ w
  have e1 : ((h.toNat : Nat) : Int) = h := by omega
  rcases hlo with ⟨rfl, rfl⟩ | ⟨k, rfl⟩ <;> rcases hhi with ⟨rfl, rfl⟩ | ⟨k', rfl⟩
  · simp [Instr.sliceBounds]
  · simp only [Instr.sliceBounds, Sem.run_bind, Sem.run_pure, Result.andThen_ok, hs2]; rfl
  · have := hs1 k len
    simp only [Instr.sliceBounds, Sem.run_bind, Sem.run_pure, Result.andThen_ok, Int.toNat_natCast]
    rw [hs1 k len _ rfl]; rfl
  · simp only [Instr.sliceBounds, Sem.run_bind, Sem.run_pure, Result.andThen_ok, hs2]
    rw [hs1 k h.toNat _ e1]; rfl

theorem optX_lo {C : Ctx} {g : Nat → AVal} (hE : RepE C g a) {lo : Option Operand} {alo : Option AX} (h : optX lo = some alo) {l : Int}
    (hl : (match alo with | some l => intOf? (evX g l) | none => some 0) = some l) : (lo.map a.eval = none ∧ l = 0) ∨ ∃ k, lo.map a.eval = some (.int k l) := by
  cases lo with
  | none => simp [optX] at h; subst h; simp at hl; exact .inl ⟨rfl, hl.symm⟩
  | some x =>
    simp only [optX] at h
    cases e : cX x with
    | none => simp [e] at h
    | some ax =>
      simp [e] at h
      subst h
      obtain ⟨k, hk⟩ := intOf_rep hl (cX_rep hE e)
      exact .inr ⟨k, by simp [hk]⟩

theorem optX_hi {C : Ctx} {g : Nat → AVal} (hE : RepE C g a) {hi : Option Operand} {ahi : Option AX} (h : optX hi = some ahi) {hh : Option Int}
    (hl : (match ahi with | some l => (intOf? (evX g l)).map some | none => some none) = some hh) (len : Nat) : (hi.map a.eval = none ∧ hh.getD len = len) ∨ ∃ k, hi.map a.eval = some (.int k (hh.getD len)) := by
  cases hi with
  | none => simp [optX] at h; subst h; simp at hl; subst hl; exact .inl ⟨rfl, rfl⟩
  | some x =>
    simp only [optX] at h
    cases e : cX x with
    | none => simp [e] at h
    | some ax =>
      simp [e] at h
      subst h
      simp only at hl
      cases e' : intOf? (evX g ax) with
      | none => simp [e'] at hl
      | some n =>
        simp [e'] at hl
        subst hl
        obtain ⟨k, hk⟩ := intOf_rep e' (cX_rep hE e)
        exact .inr ⟨k, by simp [hk]⟩

theorem RowD.drop {F : Froz} : ∀ {l : List Dat} {b o sz : Nat}, RowD F l b o sz → ∀ n, RowD F (l.drop n) b (o + n * sz) sz := by
  intro l b o sz h n
  refine rowD_of fun i d hd => ?_
  rw [List.getElem?_drop] at hd
  obtain ⟨cs, h1, h2, h3⟩ := h.get hd
  refine ⟨cs, h1, h2, ?_⟩
  rwa [show o + n * sz + i * sz = o + (n + i) * sz by rw [Nat.add_mul]; omega]

theorem RowD.take {F : Froz} : ∀ {l : List Dat} {b o sz : Nat}, RowD F l b o sz → ∀ n, RowD F (l.take n) b o sz := by
  intro l b o sz h n
  refine rowD_of fun i d hd => ?_
  rw [List.getElem?_take] at hd
  split at hd
  · exact h.get hd
  · cases hd

theorem sliceE_rep {sz : Nat} {x v : AVal} {lo : Int} {hi : Option Int} {val : Value} (h : sliceE sz x lo hi = some v) (hr : RepA C x val) :
    ∃ p len cap, val = .slice p len cap ∧ 0 ≤ lo ∧ lo ≤ hi.getD len ∧ hi.getD len ≤ cap ∧
      RepA C v (.slice (if cap = lo.toNat then p else p.map (·.add (lo.toNat * sz))) ((hi.getD len).toNat - lo.toNat) (cap - lo.toNat)) := by
  unfold sliceE at h
  split at h
  · rename_i id ver sz' off len
    simp only at h
    split at h
    · rename_i hc
      obtain ⟨h0, h1, h2, rfl⟩ := hc
      simp only [Option.some.injEq] at h
      subst h
      simp only [RepA] at hr
      obtain ⟨A, p, cap, q1, q2, q3, q4, q5, q6⟩ := hr
      refine ⟨p, len, cap, q3, h0, h1, by omega, ?_⟩
      simp only [RepA]
      refine ⟨A, (if cap = lo.toNat then p else p.map (·.add (lo.toNat * sz))), cap - lo.toNat, q1, q2, ?_, by omega, ?_, fun e => ?_⟩
      · congr 1; omega
      · intro hcap
        rw [if_neg (by omega)]
        have := q5 (by omega)
        cases p with
        | none => simp at this
        | some p => rfl
      · obtain ⟨g1, g2, g3, g4⟩ := q6 e
        refine ⟨g1, by omega, ?_, fun hcap => ?_⟩
        · rw [g3]; congr 1; omega
        · rw [if_neg (by omega), g4 (by omega)]
          simp only [Option.map_some, Addr.add_mk]
          congr 2
          rw [Nat.add_mul]; omega
    · cases h
  · rename_i l
    simp only at h
    split at h
    · rename_i hc
      obtain ⟨h0, h1, h2, h3⟩ := hc
      simp only [Option.some.injEq] at h
      subst h
      simp only [RepA] at hr
      have := hr.cell rfl
      simp only [RepD] at this
      obtain ⟨p, cap, q1, q2, q3⟩ := this
      simp only [List.cons.injEq, and_true] at q1
      refine ⟨p, l.length, cap, q1, h0, h1, by omega, ?_⟩
      simp only [RepA]
      refine repV_leaf rfl ?_
      simp only [RepD]
      refine ⟨_, _, by simp only [List.length_take, List.length_drop]; congr 2; omega, by simp only [List.length_take, List.length_drop]; omega, ?_⟩
      rcases q3 with q3 | ⟨b, o, sz', ha, hrow⟩
      · subst q3; exact .inl (by simp)
      · by_cases hl : (l.drop lo.toNat).take ((hi.getD ↑l.length) - lo).toNat = []
        · exact .inl hl
        · right
          have hne : lo.toNat < l.length := by
            rcases Nat.lt_or_ge lo.toNat l.length with h | h
            · exact h
            · exfalso; apply hl; rw [List.drop_eq_nil_of_le h]; simp
          have hsz : sz' = sz := by
            cases l with
            | nil => simp at hne
            | cons d r =>
              have w1 := hrow.width d (by simp)
              simp at h3
              omega
          subst hsz
          refine ⟨b, o + lo.toNat * sz', sz', ?_, (hrow.drop lo.toNat).take _⟩
          rw [if_neg (by omega), ha]
          simp [Addr.add_mk]
    · cases h
  · split at h
    · rename_i hc
      obtain ⟨rfl, h1⟩ := hc
      simp only [Option.some.injEq] at h
      subst h
      simp only [RepA] at hr
      have h1' : hi.getD ((0 : Nat) : Int) = 0 := by simpa using h1
      refine ⟨none, 0, 0, hr, by omega, by omega, by omega, ?_⟩
      rw [h1']
      simp [RepA]
    · cases h
  · cases h

theorem op_slc (hI : Inv B C) (hE : RepE C g a) {t e : TypeId} {x : Operand} {lo hi : Option Operand} {q : TI} {ax : AX} {alo ahi : Option AX} {v : AVal} {l : Int} {hh : Option Int} (ho : o.op = .slice t x lo hi none) (hx : cX x = some ax)
    (hlo : optX lo = some alo) (hhi : optX hi = some ahi) (ht : P.underlying t = some (.slice e)) (hq : tI P e = some q)
    (hl : (match alo with | some l => intOf? (evX g l) | none => some 0) = some l) (hhv : (match ahi with | some l => (intOf? (evX g l)).map some | none => some none) = some hh)
    (h : sliceE q.size (evX g ax) l hh = some v) : Does P o a C.w (Owes B C v []) := by
  obtain ⟨p, len, cap, h1, h2, h3, h4, h5⟩ := sliceE_rep h (cX_rep hE hx)
  refine does_same hI ?_ h5
  have hb := run_sliceBounds (P := P) true len cap C.w (optX_lo hE hlo hl) (optX_hi hE hhi hhv len) ⟨h2, h3, h4⟩
  simp only [execOp, ho, Instr.sliceAt, Sem.run_bind, run_underlying ht, Result.andThen_ok, Instr.slice, h1, Option.map_none, hb, run_sizeOf hq, Sem.run_pure]

theorem extract_mk (s : List UInt8) (l h : Nat) : (ByteArray.mk s.toArray).extract l h = ByteArray.mk ((s.drop l).take (h - l)).toArray := by
  apply ByteArray.ext
  simp [ByteArray.data_extract, List.extract_eq_take_drop]

theorem op_slcS (hI : Inv B C) (hE : RepE C g a) {t : TypeId} {x : Operand} {lo hi : Option Operand} {ax : AX} {alo ahi : Option AX} {v : AVal} {l : Int} {hh : Option Int} (ho : o.op = .slice t x lo hi none) (hx : cX x = some ax)
    (hlo : optX lo = some alo) (hhi : optX hi = some ahi) (ht : P.underlying t = some .string)
    (hl : (match alo with | some l => intOf? (evX g l) | none => some 0) = some l) (hhv : (match ahi with | some l => (intOf? (evX g l)).map some | none => some none) = some hh)
    (h : sliceS (evX g ax) l hh = some v) : Does P o a C.w (Owes B C v []) := by
  have hr := cX_rep hE hx
  unfold sliceS at h
  split at h
  · rename_i s hs
    rw [hs] at hr
    simp only at h
    split at h
    · rename_i hc
      obtain ⟨h0, h1, h2⟩ := hc
      simp only [Option.some.injEq] at h
      subst h
      refine does_same hI ?_ (rep_mk_str C _)
      have hb := run_sliceBounds (P := P) false s.length s.length C.w (optX_lo hE hlo hl) (optX_hi hE hhi hhv s.length) ⟨h0, h1, h2⟩
      have hsz : (ByteArray.mk s.toArray).size = s.length := by simp [ByteArray.size]
      simp only [execOp, ho, Instr.sliceAt, Sem.run_bind, run_underlying ht, Result.andThen_ok, Instr.slice, rep_str hr, Option.map_none, Option.isSome_none, Bool.false_eq_true, if_false, hsz, hb, Sem.run_pure, extract_mk]
      have e : (hh.getD ↑s.length).toNat - l.toNat = (hh.getD ↑s.length - l).toNat := by omega
      rw [e]
    · cases h
  · cases h

end
end Go.Am

/- The abstract machine: the operations that read, make or write memory. -/
set_option linter.unusedVariables false
set_option linter.unusedSimpArgs false
namespace Go.Am

/-! ## Rows of elements -/

def FlatD (F : Froz) (sz : Nat) : List Dat → List Value → Prop
  | [], cs => cs = []
  | d :: r, cs => ∃ c cs', cs = c ++ cs' ∧ c.length = sz ∧ RepD F d c ∧ FlatD F sz r cs'

theorem FlatD.length {F : Froz} {sz : Nat} : ∀ {ds : List Dat} {cs : List Value}, FlatD F sz ds cs → cs.length = ds.length * sz
  | [], cs, h => by simp only [FlatD] at h; simp [h]
  | d :: r, cs, h => by
    simp only [FlatD] at h
    obtain ⟨c, cs', rfl, h1, _, h3⟩ := h
    simp only [List.length_append, h1, h3.length, List.length_cons, Nat.add_mul]; omega

theorem FlatD.mono {F F' : Froz} (hF : F.le F') {sz : Nat} : ∀ {ds : List Dat} {cs : List Value}, FlatD F sz ds cs → FlatD F' sz ds cs
  | [], cs, h => h
  | d :: r, cs, h => by
    simp only [FlatD] at h ⊢
    obtain ⟨c, cs', h0, h1, h2, h3⟩ := h
    exact ⟨c, cs', h0, h1, RepD.mono hF _ _ h2, h3.mono hF⟩

theorem FlatD.get {F : Froz} {sz : Nat} : ∀ {ds : List Dat} {cs : List Value}, FlatD F sz ds cs → ∀ {i : Nat} {d : Dat}, ds[i]? = some d →
    ∃ c, c.length = sz ∧ RepD F d c ∧ ∀ (j : Nat) (v : Value), c[j]? = some v → cs[i * sz + j]? = some v
  | [], cs, h, i, d, hi => by simp at hi
  | x :: r, cs, h, i, d, hi => by
    simp only [FlatD] at h
    obtain ⟨c, cs', rfl, h1, h2, h3⟩ := h
    cases i with
    | zero =>
      simp at hi; subst hi
      refine ⟨c, h1, h2, fun j v hj => ?_⟩
      have := (List.getElem?_eq_some_iff.1 hj).1
      simpa [List.getElem?_append_left this] using hj
    | succ i =>
      simp at hi
      obtain ⟨c', h4, h5, h6⟩ := h3.get hi
      refine ⟨c', h4, h5, fun j v hj => ?_⟩
      rw [List.getElem?_append_right (by rw [h1, Nat.add_mul]; omega), h1]
      have := h6 j v hj
      rwa [show (i + 1) * sz + j - sz = i * sz + j by rw [Nat.add_mul]; omega]

theorem FlatD.append {F : Froz} {sz : Nat} : ∀ {ds ds' : List Dat} {cs cs' : List Value}, FlatD F sz ds cs → FlatD F sz ds' cs' → FlatD F sz (ds ++ ds') (cs ++ cs')
  | [], ds', cs, cs', h, h' => by simp only [FlatD] at h; subst h; simpa using h'
  | d :: r, ds', cs, cs', h, h' => by
    simp only [FlatD] at h
    obtain ⟨c, cs'', rfl, h1, h2, h3⟩ := h
    simp only [List.cons_append, FlatD]
    exact ⟨c, cs'' ++ cs', by simp, h1, h2, h3.append h'⟩

theorem FlatD.one {F : Froz} {sz : Nat} : ∀ {ds : List Dat} {cs : List Value}, FlatD F sz ds cs → ∀ c ∈ cs, c.oneCell' = true
  | [], cs, h => by simp only [FlatD] at h; subst h; simp
  | d :: r, cs, h => by
    simp only [FlatD] at h
    obtain ⟨c, cs', rfl, h1, h2, h3⟩ := h
    intro x hx
    rcases List.mem_append.1 hx with hx | hx
    · exact h2.one x hx
    · exact h3.one x hx

theorem FlatD.width {F : Froz} {sz : Nat} : ∀ {ds : List Dat} {cs : List Value}, FlatD F sz ds cs → ∀ d ∈ ds, d.width = sz
  | [], cs, h, d, hd => by simp at hd
  | x :: r, cs, h, d, hd => by
    simp only [FlatD] at h
    obtain ⟨c, cs', rfl, h1, h2, h3⟩ := h
    cases hd with
    | head => rw [← h2.length, h1]
    | tail _ hd => exact h3.width d hd

/-- elements that lie somewhere, as one row -/
theorem flat_of {F : Froz} {sz : Nat} (M : Nat → Option Value) : ∀ {ds : List Dat} (o : Nat), (∀ (i : Nat) (d : Dat), ds[i]? = some d → ∃ c, c.length = sz ∧ RepD F d c ∧ ∀ (j : Nat) (v : Value), c[j]? = some v → M (o + i * sz + j) = some v) →
    ∃ cs, FlatD F sz ds cs ∧ ∀ (j : Nat) (v : Value), cs[j]? = some v → M (o + j) = some v
  | [], o, h => ⟨[], rfl, by simp⟩
  | d :: r, o, h => by
    obtain ⟨c, h1, h2, h3⟩ := h 0 d rfl
    obtain ⟨cs, h4, h5⟩ := flat_of M (ds := r) (o + sz) (fun i d hi => by
      obtain ⟨c, h1, h2, h3⟩ := h (i + 1) d (by simpa using hi)
      refine ⟨c, h1, h2, fun j v hj => ?_⟩
      have := h3 j v hj
      rwa [show o + (i + 1) * sz + j = o + sz + i * sz + j by rw [Nat.add_mul]; omega] at this)
    refine ⟨c ++ cs, ⟨c, cs, rfl, h1, h2, h4⟩, fun j v hj => ?_⟩
    rcases Nat.lt_or_ge j c.length with hlt | hge
    · rw [List.getElem?_append_left hlt] at hj
      have := h3 j v hj
      simpa using this
    · rw [List.getElem?_append_right hge] at hj
      have := h5 _ v hj
      rwa [show o + sz + (j - c.length) = o + j by omega] at this

theorem flat_row {F : Froz} {sz b o : Nat} {ds : List Dat} {cs : List Value} (h : FlatD F sz ds cs) (hc : cellsAt F b o cs) : RowD F ds b o sz := by
  refine rowD_of fun i d hd => ?_
  obtain ⟨c, h1, h2, h3⟩ := h.get hd
  refine ⟨c, h1, h2, fun j v hj => ?_⟩
  have := hc _ _ (h3 j v hj)
  rwa [← Nat.add_assoc] at this

theorem flat_replicate {F : Froz} {d : Dat} {c : List Value} (h : RepD F d c) : ∀ (n : Nat), FlatD F d.width (List.replicate n d) (List.replicate n c).flatten
  | 0 => rfl
  | n + 1 => by
    simp only [List.replicate_succ, List.flatten_cons, FlatD]
    exact ⟨c, _, rfl, h.length, h, flat_replicate h n⟩

section
variable {P : Program} {o : Oper} {a : Act} {B : Base} {C : Ctx} {g : Nat → AVal}

/-- an element of an array -/
theorem Inv.elem (hI : Inv B C) {id : Id} {sz ver : Nat} {fz : Bool} {es : List Dat} (h : C.ρ id = some (.arr sz ver fz es)) {i : Nat} {d : Dat} (hd : es[i]? = some d) :
    ∃ c, c.length = sz ∧ RepD C.F d c ∧ ∀ (j : Nat) (v : Value), c[j]? = some v → C.w.cell? ⟨(C.μ id).b, (C.μ id).o + i * sz + j, none⟩ = some v := by
  obtain ⟨h1, h2, h3, h4⟩ := hI.objs id _ h
  cases fz
  · exact (h3 rfl).2 i d hd
  · obtain ⟨c, q1, q2, q3⟩ := (h4 rfl).get hd
    exact ⟨c, q1, q2, fun j v hj => hI.Fw _ _ _ (q3 j v hj)⟩

theorem addr_cells {w : World} {b o : Nat} {cs : List Value} (h : ∀ (j : Nat) (v : Value), cs[j]? = some v → w.cell? ⟨b, o + j, none⟩ = some v) :
    ∀ (j : Nat) (v : Value), cs[j]? = some v → w.cell? ((⟨b, o, none⟩ : Addr).add j) = some v := fun j v hj => by rw [Addr.add_mk]; exact h j v hj

/-- the elements of a slice, as they lie -/
theorem elemsOf_rep (hI : Inv B C) {sz : Nat} {x : AVal} {ds : List Dat} {val : Value} (h : elemsOf C.ρ sz x = some ds) (hr : RepA C x val) :
    ∃ p cap cs, val = .slice p ds.length cap ∧ FlatD C.F sz ds cs ∧ (0 < ds.length → ∃ b o, p = some ⟨b, o, none⟩ ∧ ∀ (j : Nat) (v : Value), cs[j]? = some v → C.w.cell? ⟨b, o + j, none⟩ = some v) := by
  unfold elemsOf at h
  split at h
  · rename_i l
    split at h
    · rename_i hall
      simp only [Option.some.injEq] at h
      subst h
      simp only [RepA] at hr
      have := hr.cell rfl
      simp only [RepD] at this
      obtain ⟨p, cap, h1, h2, h3⟩ := this
      simp only [List.cons.injEq, and_true] at h1
      rcases h3 with h3 | ⟨b, o, sz', ha, hrow⟩
      · subst h3
        exact ⟨p, cap, [], h1, rfl, by simp⟩
      · cases l with
        | nil => exact ⟨p, cap, [], h1, rfl, by simp⟩
        | cons d r =>
          have hsz : sz' = sz := by
            have w1 := hrow.width d (by simp)
            simp at hall
            omega
          subst hsz
          obtain ⟨cs, h4, h5⟩ := flat_of (F := C.F) (sz := sz') (fun j => C.F b j) (ds := d :: r) o (fun i d hd => by
            obtain ⟨c, q1, q2, q3⟩ := hrow.get hd
            exact ⟨c, q1, q2, fun j v hj => q3 j v hj⟩)
          exact ⟨p, cap, cs, h1, h4, fun _ => ⟨b, o, ha, fun j v hj => hI.Fw _ _ _ (h5 j v hj)⟩⟩
    · cases h
  · simp only [Option.some.injEq] at h
    subst h
    simp only [RepA] at hr
    exact ⟨none, 0, [], hr, rfl, by simp⟩
  · simp only [Option.some.injEq] at h
    subst h
    simp only [RepA] at hr
    obtain ⟨p, c, h1, h2⟩ := hr
    exact ⟨p, c, [], h1, rfl, by simp⟩
  · rename_i id ver sz' off len
    split at h
    · rename_i sz'' ver' fz es hρ
      split at h
      · rename_i hc
        obtain ⟨rfl, rfl, rfl, hb⟩ := hc
        simp only [Option.some.injEq] at h
        subst h
        simp only [RepA] at hr
        obtain ⟨A, p, cap, q1, q2, q3, q4, q5, q6⟩ := hr
        have hA : A = ⟨ver, sz, es.length, C.μ id⟩ := by simpa [arrAt, hρ] using q1.symm
        subst hA
        obtain ⟨g1, g2, g3, g4⟩ := q6 rfl
        have hlen : ((es.drop off).take len).length = len := by simp; omega
        obtain ⟨cs, h4, h5⟩ := flat_of (F := C.F) (sz := sz) (fun j => C.w.cell? ⟨(C.μ id).b, j, none⟩) (ds := (es.drop off).take len) ((C.μ id).o + off * sz) (fun i d hd => by
          rw [List.getElem?_take] at hd
          split at hd
          · rw [List.getElem?_drop] at hd
            obtain ⟨c, r1, r2, r3⟩ := hI.elem hρ hd
            refine ⟨c, r1, r2, fun j v hj => ?_⟩
            have := r3 j v hj
            rwa [show (C.μ id).o + off * sz + i * sz + j = (C.μ id).o + (off + i) * sz + j by rw [Nat.add_mul]; omega]
          · cases hd)
        refine ⟨p, cap, cs, by rw [hlen]; exact q3, h4, fun hp => ?_⟩
        rw [hlen] at hp
        exact ⟨_, _, g4 (by omega), fun j v hj => h5 j v hj⟩
      · cases h
    · cases h
  · cases h

theorem run_lenOf_slice (p : Option Addr) (n c : Nat) (w : World) : (Builtin.lenOf (.slice p n c)).run P w = .ok n w := rfl

theorem run_first_slice {w : World} {p : Option Addr} {len cap n sz : Nat} {cs : List Value} (hl : cs.length = n * sz) (h : 0 < cs.length → ∃ b o, p = some ⟨b, o, none⟩ ∧ ∀ (j : Nat) (v : Value), cs[j]? = some v → w.cell? ⟨b, o + j, none⟩ = some v) :
    (Builtin.firstCells sz n (.slice p len cap)).run P w = .ok cs.toArray w := by
  cases p with
  | none =>
    have : cs = [] := by
      cases cs with
      | nil => rfl
      | cons c r => obtain ⟨b, o, h1, _⟩ := h (by simp); cases h1
    subst this
    exact run_firstCells_none w sz n len cap
  | some p =>
    cases cs with
    | nil => exact run_firstCells_some w sz n p len cap [] hl (by simp)
    | cons c r =>
      obtain ⟨b, o, h1, h2⟩ := h (by simp)
      cases h1
      exact run_firstCells_some w sz n _ len cap _ hl (addr_cells h2)

/-- what is appended or copied -/
theorem srcOf_rep (hI : Inv B C) {sz : Nat} (hsz : 1 ≤ sz) {x : AVal} {ds : List Dat} {val : Value} (h : srcOf C.ρ sz x = some ds) (hr : RepA C x val) :
    ∃ cs, FlatD C.F sz ds cs ∧ (∀ w, (Builtin.lenOf val).run P w = .ok ds.length w) ∧
      ∀ n, n ≤ ds.length → ∀ w, (∀ ad, w.cell? ad = C.w.cell? ad) → (Builtin.firstCells sz n val).run P w = .ok (cs.take (n * sz)).toArray w := by
  unfold srcOf at h
  split at h
  · rename_i s
    split at h
    · rename_i h1
      subst h1
      simp only [Option.some.injEq] at h
      subst h
      rw [rep_str hr]
      have hflat : ∀ (s : List UInt8), FlatD C.F 1 (s.map fun b => Dat.int .u8 b.toNat) (s.map fun b => Value.int .u8 b.toNat) := by
        intro s
        induction s with
        | nil => rfl
        | cons b r ih => exact ⟨[_], _, rfl, rfl, by simp [RepD], ih⟩
      refine ⟨_, hflat s, fun w => by simp only [Builtin.lenOf, List.length_map]; rfl, fun n hn w _ => ?_⟩
      simp only [Builtin.firstCells]
      have e : (((ByteArray.mk s.toArray).extract 0 n).data.map fun b => Value.int .u8 b.toNat) = ((s.map fun b => Value.int .u8 b.toNat).take (n * 1)).toArray := by
        rw [extract_mk]
        simp [List.map_take]
      rw [e]; rfl
    · cases h
  · obtain ⟨p, cap, cs, h1, h2, h3⟩ := elemsOf_rep hI h hr
    subst h1
    refine ⟨cs, h2, fun w => rfl, fun n hn w hw => ?_⟩
    have hl := h2.length
    refine run_first_slice ?_ ?_
    · rw [List.length_take, hl]
      exact Nat.min_eq_left (Nat.mul_le_mul_right _ hn)
    · intro hp
      have : 0 < ds.length := by
        rcases Nat.eq_zero_or_pos ds.length with h | h
        · rw [h] at hl; simp at hl; simp [hl] at hp
        · exact h
      obtain ⟨b, o, q1, q2⟩ := h3 this
      refine ⟨b, o, q1, fun j v hj => ?_⟩
      rw [hw]
      rw [List.getElem?_take] at hj
      split at hj
      · exact q2 j v hj
      · cases hj

/-! ## Loads -/

theorem list_of_cells {w : World} {b : Nat} (n : Nat) : ∀ (o : Nat), (∀ j, j < n → ∃ v, w.cell? ⟨b, o + j, none⟩ = some v) → ∃ cs : List Value, cs.length = n ∧ ∀ (j : Nat) (v : Value), cs[j]? = some v → w.cell? ⟨b, o + j, none⟩ = some v := by
  induction n with
  | zero => intro o _; exact ⟨[], rfl, by simp⟩
  | succ n ih =>
    intro o h
    obtain ⟨v, hv⟩ := h 0 (by omega)
    obtain ⟨cs, h1, h2⟩ := ih (o + 1) (fun j hj => by have := h (j + 1) (by omega); rwa [show o + (j + 1) = o + 1 + j by omega] at this)
    refine ⟨v :: cs, by simp [h1], fun j u hj => ?_⟩
    cases j with
    | zero => simp at hj; subst hj; exact hv
    | succ j => simp at hj; have := h2 j u hj; rwa [show o + (j + 1) = o + 1 + j by omega]

theorem loadE_rep (hI : Inv B C) {n : Nat} {agg : Bool} {x v : AVal} {val : Value} (hn : 1 ≤ n) (h : loadE C.ρ n agg x = some v) (hr : RepA C x val) :
    ∃ b o, val = .pointer (some ⟨b, o, none⟩) ∧
      (agg = true → ∃ cs : List Value, cs.length = n ∧ (∀ (j : Nat) (u : Value), cs[j]? = some u → C.w.cell? ⟨b, o + j, none⟩ = some u) ∧ RepA C v (.agg cs.toArray)) ∧
      (agg = false → ∃ u, C.w.cell? ⟨b, o, none⟩ = some u ∧ RepA C v u) := by
  unfold loadE at h
  split at h
  · rename_i id off
    split at h
    · rename_i cells hρ
      split at h
      · rename_i hb
        simp only [RepA] at hr
        obtain ⟨L, h1, h2⟩ := hr
        have hL : L = C.μ id := by simpa [boxAt, hρ] using h1.symm
        subst hL
        obtain ⟨o1, o2, o3, o4⟩ := hI.objs id _ hρ
        refine ⟨_, _, h2, fun e => ?_, fun e => ?_⟩
        · subst e
          simp only [if_true, Option.some.injEq] at h
          subst h
          obtain ⟨cs, h3, h4⟩ := list_of_cells (w := C.w) (b := (C.μ id).b) n ((C.μ id).o + off) (fun j hj => by
            obtain ⟨v, hv, _⟩ := o4 (off + j) cells[off + j] (List.getElem?_eq_getElem (by omega))
            exact ⟨v, by rwa [Nat.add_assoc]⟩)
          have hlen : ((cells.drop off).take n).length = n := by simp; omega
          have hrep : RepL C ((cells.drop off).take n) cs := by
            refine repL_of (by rw [h3, hlen]) fun i x c hi hc => ?_
            rw [List.getElem?_take] at hi
            split at hi
            · rw [List.getElem?_drop] at hi
              obtain ⟨v, hv, hx⟩ := o4 _ _ hi
              have := h4 i c hc
              rw [Nat.add_assoc, hv] at this
              cases this
              exact hx
            · cases hi
          have hleaf : ((cells.drop off).take n).all AVal.leaf = true := by
            rw [List.all_eq_true] at o2 ⊢
            exact fun x hx => o2 x (List.mem_of_mem_drop (List.mem_of_mem_take hx))
          refine ⟨cs, h3, h4, ?_⟩
          simp only [RepA]
          refine ⟨_, rfl, hrep, hleaf, fun c hc => ?_⟩
          have hc' : c ∈ cs := by simpa using hc
          obtain ⟨i, hi⟩ := List.getElem?_of_mem hc'
          obtain ⟨x, hx⟩ : ∃ x, ((cells.drop off).take n)[i]? = some x := by
            have := (List.getElem?_eq_some_iff.1 hi).1
            exact ⟨_, List.getElem?_eq_getElem (by rw [hlen]; omega)⟩
          obtain ⟨c', e1, e2⟩ := hrep.get hx
          rw [hi] at e1
          cases e1
          rw [List.all_eq_true] at hleaf
          exact (e2.leaf (hleaf x (List.mem_of_getElem? hx))).1
        · subst e
          simp only [Bool.false_eq_true, if_false] at h
          obtain ⟨u, hu, hx⟩ := o4 _ _ h
          exact ⟨u, hu, hx⟩
      · cases h
    · cases h
  · rename_i id ver i off
    split at h
    · rename_i sz ver' fz es hρ
      split at h
      · rename_i hv
        subst hv
        cases e : es[i]? with
        | none => simp [e] at h
        | some d =>
          simp only [e] at h
          split at h
          · rename_i hb
            simp only [RepA] at hr
            obtain ⟨A, p, h1, h2, h3, h4⟩ := hr
            have hA : A = ⟨ver, sz, es.length, C.μ id⟩ := by simpa [arrAt, hρ] using h1.symm
            subst hA
            obtain ⟨g1, g2⟩ := h4 rfl
            subst g2
            obtain ⟨c, c1, c2, c3⟩ := hI.elem hρ e
            have hagg := c2.cellsAgg
            have hlen := hagg.length
            refine ⟨_, _, h3, fun e' => ?_, fun e' => ?_⟩
            · subst e'
              simp only [if_true, Option.some.injEq] at h
              subst h
              refine ⟨(c.drop off).take n, by simp; omega, fun j u hj => ?_, ?_⟩
              · rw [List.getElem?_take] at hj
                split at hj
                · rw [List.getElem?_drop] at hj
                  have := c3 _ _ hj
                  rwa [← Nat.add_assoc] at this
                · cases hj
              · simp only [RepA]
                exact repV_agg (by simpa using (hagg.drop off).take n)
            · subst e'
              simp only [Bool.false_eq_true, if_false] at h
              cases e2 : d.cells[off]? with
              | none => rw [e2] at h; cases h
              | some dd =>
                rw [e2] at h
                simp only [Option.map_some, Option.some.injEq] at h
                subst h
                obtain ⟨u, u1, u2, u3⟩ := hagg.get e2
                exact ⟨u, c3 _ _ u1, repV_leaf u2 u3⟩
          · cases h
      · cases h
    · rename_i ver' es hρ
      split at h
      · rename_i hc
        obtain ⟨rfl, rfl, rfl⟩ := hc
        simp only [RepA] at hr
        obtain ⟨A, p, h1, h2, h3, h4⟩ := hr
        have hA : A = ⟨ver, 1, es.length, C.μ id⟩ := by simpa [arrAt, hρ] using h1.symm
        subst hA
        obtain ⟨g1, g2⟩ := h4 rfl
        subst g2
        obtain ⟨o1, o2, o3, o4⟩ := hI.objs id _ hρ
        obtain ⟨u, hu, hx⟩ := o4 _ _ h
        exact ⟨_, _, h3, fun e => by simp at e, fun _ => ⟨u, by simpa using hu, hx⟩⟩
      · cases h
    · cases h
  · rename_i l
    split at h
    · rename_i hb
      simp only [RepA] at hr
      obtain ⟨b, o, cs, h1, h2, h3⟩ := hr
      refine ⟨b, o, h1, fun e => ?_, fun e => ?_⟩
      · subst e
        simp only [if_true, Option.some.injEq] at h
        subst h
        have := h2.length
        refine ⟨cs.take n, by simp; omega, fun j u hj => ?_, ?_⟩
        · rw [List.getElem?_take] at hj
          split at hj
          · exact hI.Fw _ _ _ (h3 _ _ hj)
          · cases hj
        · simp only [RepA]
          exact repV_agg (by simpa using h2.take n)
      · subst e
        simp only [Bool.false_eq_true, if_false] at h
        cases e2 : l[0]? with
        | none => simp [e2] at h
        | some dd =>
          simp [e2] at h
          subst h
          obtain ⟨u, u1, u2, u3⟩ := h2.get e2
          exact ⟨u, by simpa using hI.Fw _ _ _ (h3 _ _ u1), repV_leaf u2 u3⟩
    · cases h
  · cases h

theorem op_ld (hI : Inv B C) (hE : RepE C g a) {t : TypeId} {x : Operand} {q : TI} {ax : AX} {v : AVal} (ho : o.op = .load t x) (hx : cX x = some ax) (hq : tI P t = some q) (hq1 : 1 ≤ q.size)
    (h : loadE C.ρ q.size q.agg (evX g ax) = some v) : Does P o a C.w (Owes B C v []) := by
  obtain ⟨b, of, h1, h2, h3⟩ := loadE_rep hI hq1 h (cX_rep hE hx)
  cases e : q.agg
  · obtain ⟨u, hu, hr⟩ := h3 e
    refine does_same hI ?_ hr
    simp [execOp, ho, Instr.loadAt, h1, Instr.sureAddr, loadVar, run_isAgg hq, e, hu]
  · obtain ⟨cs, c1, c2, hr⟩ := h2 e
    refine does_same hI ?_ hr
    have := run_loadCells_list (P := P) C.w ⟨b, of, none⟩ cs (addr_cells c2)
    rw [c1] at this
    simp [execOp, ho, Instr.loadAt, h1, Instr.sureAddr, loadVar, run_isAgg hq, e, run_sizeOf hq, this]

end
end Go.Am

/- The abstract machine: the operations that make memory. -/
set_option linter.unusedVariables false
set_option linter.unusedSimpArgs false
namespace Go.Am

/-! ## Filling rows -/

theorem fold_set (off : Nat) : ∀ (c : List Value) (k : Nat) (cells : Array Value), off + k + c.length ≤ cells.size →
    ((c.zipIdx k).foldl (fun cs p => cs.setIfInBounds (off + p.2) p.1) cells).toList = cells.toList.take (off + k) ++ c ++ cells.toList.drop (off + k + c.length)
  | [], k, cells, h => by simp
  | x :: r, k, cells, h => by
    simp only [List.zipIdx_cons, List.foldl_cons]
    simp only [List.length_cons] at h
    rw [fold_set off r (k + 1) _ (by simp; omega)]
    have hlt : off + k < cells.toList.length := by simp; omega
    simp only [Array.toList_setIfInBounds]
    have e1 : (cells.toList.set (off + k) x).take (off + (k + 1)) = cells.toList.take (off + k) ++ [x] := by
      rw [show off + (k + 1) = off + k + 1 by omega, List.take_add_one, List.take_set_of_le (Nat.le_refl _), List.getElem?_set_self hlt]
      rfl
    have e2 : (cells.toList.set (off + k) x).drop (off + (k + 1) + r.length) = cells.toList.drop (off + k + (r.length + 1)) := by
      rw [List.drop_set_of_lt (by omega)]
      congr 1; omega
    rw [e1, e2]
    simp

theorem fill_step (place : Nat → Option (Nat × Nat)) (cells : Array Value) (i : Nat) (v : Value) (rest : List (Nat × Value)) {off size : Nat} (hp : place i = some (off, size))
    (hs : v.cells.size = size) (hf : off + size ≤ cells.size) :
    ∃ cells', Instr.fill place cells ((i, v) :: rest) = Instr.fill place cells' rest ∧ cells'.toList = splice cells.toList off v.cells.toList := by
  refine ⟨v.cells.zipIdx.foldl (fun cs (p : Value × Nat) => cs.setIfInBounds (off + p.2) p.1) cells, ?_, ?_⟩
  · simp only [Instr.fill, hp, hs]
    rw [if_neg]
    simp only [ne_eq, not_true_eq_false, decide_false, Bool.false_or, decide_eq_true_eq]
    omega
  · have := fold_set off v.cells.toList 0 cells (by simp; omega)
    rw [← Array.foldl_toList, Array.toList_zipIdx, this]
    simp [splice]

theorem length_splice {α : Type} (l : List α) (off : Nat) (v : List α) (h : off + v.length ≤ l.length) : (splice l off v).length = l.length := by
  simp only [splice, List.length_append, List.length_take, List.length_drop]; omega

theorem fill_row (size : Nat) : ∀ (vs : List Value) (k : Nat) (cells : Array Value), (∀ v ∈ vs, v.cells.size = size) → cells.size = (k + vs.length) * size →
    ∃ out, Instr.fill (fun i => some (i * size, size)) cells ((List.range' k vs.length).zip vs) = some out ∧ out.toList = cells.toList.take (k * size) ++ (vs.map (·.cells.toList)).flatten
  | [], k, cells, _, hs => by
    refine ⟨cells, by simp [Instr.fill], ?_⟩
    simp only [List.length_nil, Nat.add_zero] at hs
    rw [List.take_of_length_le (by simp; omega)]
    simp
  | v :: r, k, cells, h1, hs => by
    simp only [List.length_cons, List.range'_succ, List.zip_cons_cons]
    have hv := h1 v (by simp)
    have hmul : (k + (r.length + 1)) * size = k * size + size + r.length * size := by simp only [Nat.add_mul]; omega
    obtain ⟨cells', e1, e2⟩ := fill_step (fun i => some (i * size, size)) cells k v ((List.range' (k + 1) r.length).zip r) rfl hv (by rw [hs, List.length_cons, hmul]; omega)
    rw [e1]
    have hsz : cells'.size = cells.size := by
      have := congrArg List.length e2
      rw [length_splice _ _ _ (by simp; rw [hs, List.length_cons, hmul]; omega)] at this
      simpa using this
    obtain ⟨out, e3, e4⟩ := fill_row size r (k + 1) cells' (fun v hv => h1 v (by simp [hv])) (by rw [hsz, hs, List.length_cons]; congr 1; omega)
    refine ⟨out, e3, ?_⟩
    rw [e4, e2]
    have hl : (cells.toList.take (k * size) ++ v.cells.toList).length = (k + 1) * size := by
      simp only [List.length_append, List.length_take, Array.length_toList, hv]
      rw [hs, List.length_cons, hmul, Nat.add_mul]; omega
    simp only [splice]
    rw [List.take_append_of_le_length (by rw [hl]; exact Nat.le_refl _), ← hl, List.take_length]
    simp

theorem zeros_flat (z : Array Value) : ∀ (n : Nat), ((Array.range (n * z.size)).map (fun i => z[i % z.size]!)).toList = (List.replicate n z.toList).flatten
  | 0 => by simp
  | n + 1 => by
    have ih := zeros_flat z n
    simp only [Array.toList_map, Array.toList_range] at ih ⊢
    have e : (n + 1) * z.size = n * z.size + z.size := by rw [Nat.add_mul]; omega
    rw [e, List.range_add, List.map_append, ih]
    have e2 : (List.range z.size).map ((fun i => z[i % z.size]!) ∘ fun x => n * z.size + x) = z.toList := by
      apply List.ext_getElem
      · simp
      · intro i h1 h2
        simp only [List.length_map, List.length_range] at h1
        have : (n * z.size + i) % z.size = i := by rw [Nat.mul_comm, Nat.mul_add_mod]; exact Nat.mod_eq_of_lt h1
        simp [this, h1]
    rw [List.map_map, e2]
    have : ∀ (n : Nat), (List.replicate (n + 1) z.toList).flatten = (List.replicate n z.toList).flatten ++ z.toList := by
      intro n
      rw [List.replicate_succ']
      simp
    rw [this]

/-! ## Zero values -/

theorem tI_zero {P : Program} {t : TypeId} {q : TI} {z : List AVal} (h : tI P t = some q) (hz : q.zero = some z) :
    ∃ v : Value, (∀ w, (zeroValue t).run P w = .ok v w) ∧ allSome (v.cells.toList.map cst) = some z := by
  obtain ⟨i, d, h1, _, _, _, _, h6⟩ := tI_info h
  rw [hz] at h6
  cases e : i.zero with
  | none => simp [e] at h6
  | some v =>
    rw [e] at h6
    refine ⟨v, fun w => by simp [zeroValue, run_typeInfo h1, e], h6.symm⟩

theorem tI_zero_some {P : Program} {t : TypeId} {q : TI} (h : tI P t = some q) (hz : q.zero.isSome = true) : ∃ v : Value, ∀ w, (zeroValue t).run P w = .ok v w := by
  obtain ⟨z, hz'⟩ := Option.isSome_iff_exists.1 hz
  obtain ⟨v, hv, _⟩ := tI_zero h hz'
  exact ⟨v, hv⟩

theorem decLeaves_none {F : Froz} : ∀ {zero : List AVal} {ds : List Dat} {fs : List Id} {vs : List Value}, decLeaves (fun _ => none) zero = some (ds, fs) → allSome (vs.map cst) = some zero → AggD F ds vs
  | [], ds, fs, vs, h, hv => by
    simp [decLeaves] at h
    cases vs with
    | nil => rw [h.1]; rfl
    | cons v r =>
      exfalso
      have := allSome_spec hv
      simp at this
  | z :: zero, ds, fs, vs, h, hv => by
    have hsp := allSome_spec hv
    cases vs with
    | nil => simp at hsp
    | cons v r =>
      simp only [List.map_cons, List.cons.injEq] at hsp
      have hr : allSome (r.map cst) = some zero := by
        rw [hsp.2]
        clear h hv hsp
        induction zero with
        | nil => rfl
        | cons a b ih => simp [allSome, ih]
      simp only [decLeaves] at h
      cases e1 : decLeaf (fun _ => none) z with
      | none => simp [e1] at h
      | some p =>
        cases e2 : decLeaves (fun _ => none) zero with
        | none => simp [e1, e2] at h
        | some q =>
          simp only [e1, e2] at h
          split at h
          · cases h
          · rename_i hagg
            simp only [Option.some.injEq, Prod.mk.injEq] at h
            rw [← h.1]
            refine ⟨v, r, rfl, by simpa using hagg, ?_, decLeaves_none e2 hr⟩
            have hz := hsp.1
            unfold cst at hz
            split at hz <;> simp at hz <;> subst hz <;> simp [decLeaf] at e1 <;> rw [← e1] <;> simp [RepD]

theorem zeroDat_rep {F : Froz} {zero : List AVal} {z : Dat} {vs : List Value} (h : zeroDat zero = some z) (hv : allSome (vs.map cst) = some zero) : RepD F z vs := by
  unfold zeroDat at h
  split at h
  · rename_i d
    split at h
    · cases h
    · rename_i hd
      simp only [Option.some.injEq] at h
      subst h
      have hd' : d.isAgg = false := by simpa using hd
      have := decLeaves_none (F := F) (zero := [.dat d]) (ds := [d]) (fs := []) (by simp [decLeaves, decLeaf, hd']) hv
      simp only [AggD] at this
      obtain ⟨c, cs', rfl, _, h3, h4⟩ := this
      subst h4
      exact h3
  · simp only [Option.some.injEq] at h
    subst h
    have := decLeaves_none (F := F) (zero := [.nils]) (ds := [.sl []]) (fs := []) (by simp [decLeaves, decLeaf]) hv
    simp only [AggD] at this
    obtain ⟨c, cs', rfl, _, h3, h4⟩ := this
    subst h4
    exact h3
  · split at h
    · rename_i ds fs hds
      simp only [Option.some.injEq] at h
      subst h
      simp only [RepD]
      exact decLeaves_none hds hv
    · cases h

/-! ## Freezing -/

section
variable {P : Program} {o : Oper} {a : Act} {B : Base} {C : Ctx} {g : Nat → AVal}

/-- one array is frozen -/
theorem Inv.freeze1 (hI : Inv B C) {id : Id} {sz ver : Nat} {fz : Bool} {es : List Dat} (h : C.ρ id = some (.arr sz ver fz es)) :
    ∃ C' : Ctx, C'.w = C.w ∧ C'.μ = C.μ ∧ C'.ρ = updL C.ρ [(id, .arr sz ver true es)] ∧ Inv B C' ∧ Grow C C' ∧ RowD C'.F es (C.μ id).b (C.μ id).o sz := by
  have hρ' : ∀ (F : Froz), updL C.ρ [(id, .arr sz ver true es)] = fun j => if id = j then some (.arr sz ver true es) else C.ρ j := fun _ => rfl
  cases fz with
  | true =>
    have hsame : updL C.ρ [(id, .arr sz ver true es)] = C.ρ := by
      funext j
      simp only [updL]
      split
      · rename_i e; subst e; exact h.symm
      · rfl
    exact ⟨C, rfl, rfl, hsame.symm, hI, Grow.refl C, (hI.objs id _ h).2.2.2 rfl⟩
  | false =>
    obtain ⟨o1, ⟨cap, o2, o2'⟩, o3, o4⟩ := hI.objs id _ h
    obtain ⟨hown, hel⟩ := o3 rfl
    let T : Cells := fun b o => b = (C.μ id).b ∧ ∃ j, j < es.length * sz ∧ o = (C.μ id).o + j
    let F' : Froz := fun b o => if b = (C.μ id).b ∧ (C.μ id).o ≤ o ∧ o < (C.μ id).o + es.length * sz then C.w.cell? ⟨b, o, none⟩ else C.F b o
    let C' : Ctx := { w := C.w, F := F', μ := C.μ, ρ := updL C.ρ [(id, .arr sz ver true es)] }
    have hle : es.length * sz ≤ (C.μ id).n := by rw [o2]; exact Nat.mul_le_mul_right _ o2'
    have hF : C.F.le F' := by
      intro b o v hv
      simp only [F']
      split
      · rename_i hc
        obtain ⟨rfl, q1, q2⟩ := hc
        have := (hown (o - (C.μ id).o) (by omega)).2.2
        rw [show (C.μ id).o + (o - (C.μ id).o) = o by omega] at this
        rw [this] at hv; cases hv
      · exact hv
    have hrow : RowD F' es (C.μ id).b (C.μ id).o sz := by
      refine rowD_of fun i d hd => ?_
      obtain ⟨c, c1, c2, c3⟩ := hel i d hd
      refine ⟨c, c1, RepD.mono hF _ _ c2, fun j v hj => ?_⟩
      have hi := (List.getElem?_eq_some_iff.1 hd).1
      have hj' := (List.getElem?_eq_some_iff.1 hj).1
      have hlt : i * sz + j < es.length * sz := by
        calc i * sz + j < i * sz + sz := by omega
          _ = (i + 1) * sz := by rw [Nat.add_mul]; omega
          _ ≤ es.length * sz := Nat.mul_le_mul_right _ (by omega)
      have hF' : F' (C.μ id).b ((C.μ id).o + i * sz + j) = C.w.cell? ⟨(C.μ id).b, (C.μ id).o + i * sz + j, none⟩ := if_pos ⟨rfl, by omega, by omega⟩
      rw [hF']
      exact c3 j v hj
    have hg : Grow C C' := by
      refine ⟨hF, fun i L _ hb => ?_, fun i A _ ha => ?_⟩
      · by_cases e : id = i
        · subst e
          simp only [boxAt, h] at hb
          cases hb
        · simpa [boxAt, C', updL, e] using hb
      · simp only [arrAt, C', updL] at ha ⊢
        by_cases e : id = i
        · subst e
          rw [h] at ha
          simp only [Option.some.injEq] at ha
          subst ha
          exact ⟨⟨ver, sz, es.length, C.μ id⟩, by simp, Nat.le_refl _, fun _ => ⟨rfl, rfl, Nat.le_refl _⟩⟩
        · exact ⟨A, by simpa [e] using ha, Nat.le_refl _, fun _ => ⟨rfl, rfl, Nat.le_refl _⟩⟩
    refine ⟨C', rfl, rfl, rfl, ?_, hg, hrow⟩
    refine hI.step id T ?_ (Kept.refl _ _) ?_ ?_ ?_ hg ?_ ?_
    · rintro b o ⟨rfl, j, hj, rfl⟩
      exact ⟨_, h, rfl, j, by omega, rfl, rfl⟩
    · intro b o v hv
      simp only [C', F'] at hv
      split at hv
      · rename_i hc
        exact .inr (.inr ⟨hc.1, o - (C.μ id).o, by omega, by omega⟩)
      · exact .inl hv
    · intro b o v hv hn
      simp only [C', F'] at hv
      split at hv
      · exact hv
      · rw [hn] at hv; cases hv
    · intro i hi
      refine ⟨?_, rfl⟩
      simp only [C', updL]
      rw [if_neg (fun e => hi e.symm)]
    · intro o' ho'
      simp only [C', updL, if_true, Option.some.injEq] at ho'
      subst ho'
      exact ⟨o1, ⟨cap, o2, o2'⟩, fun e => by simp at e, fun _ => hrow⟩
    · intro o' ho' hw
      simp only [C', updL, if_true, Option.some.injEq] at ho'
      subst ho'
      simp [Obj.own] at hw

theorem updL_append (ρ : Look) (l l' : List (Id × Obj)) : updL ρ (l ++ l') = updL (updL ρ l) l' := by
  induction l generalizing ρ with
  | nil => rfl
  | cons p r ih => simp [updL, ih]

theorem frz_upd {ρ : Look} {id : Id} {sz ver : Nat} {fz : Bool} {es : List Dat} (h : ρ id = some (.arr sz ver fz es)) : ∀ (fs : List Id), frz (updL ρ [(id, .arr sz ver true es)]) fs = frz ρ fs
  | [] => rfl
  | i :: r => by
    simp only [frz, frz_upd h r]
    simp only [updL]
    by_cases e : id = i
    · subst e; simp [h]
    · simp [e]

/-- some arrays are frozen -/
theorem Inv.freeze (hI : Inv B C) : ∀ (fs : List Id), ∃ C' : Ctx, C'.w = C.w ∧ C'.μ = C.μ ∧ C'.ρ = updL C.ρ (frz C.ρ fs) ∧ Inv B C' ∧ Grow C C' ∧
    ∀ id ∈ fs, ∀ sz ver fz es, C.ρ id = some (.arr sz ver fz es) → RowD C'.F es (C.μ id).b (C.μ id).o sz := by
  intro fs
  induction fs generalizing C with
  | nil => exact ⟨C, rfl, rfl, rfl, hI, Grow.refl C, by simp⟩
  | cons id r ih =>
    have other : (∀ sz ver fz es, C.ρ id ≠ some (.arr sz ver fz es)) → ∃ C' : Ctx, C'.w = C.w ∧ C'.μ = C.μ ∧ C'.ρ = updL C.ρ (frz C.ρ (id :: r)) ∧ Inv B C' ∧ Grow C C' ∧
        ∀ i ∈ id :: r, ∀ sz ver fz es, C.ρ i = some (.arr sz ver fz es) → RowD C'.F es (C.μ i).b (C.μ i).o sz := by
      intro hno
      obtain ⟨C', h1, h2, h3, h4, h5, h6⟩ := ih hI
      refine ⟨C', h1, h2, ?_, h4, h5, fun i hi sz ver fz es he => ?_⟩
      · rw [h3]
        simp only [frz]
      · cases hi with
        | head => exact absurd he (hno _ _ _ _)
        | tail _ hi => exact h6 i hi sz ver fz es he
    cases e : C.ρ id with
    | none => exact other (by simp [e])
    | some ob =>
      cases ob with
      | box cs => exact other (by simp [e])
      | rarr v es => exact other (by simp [e])
      | arr sz ver fz es =>
        obtain ⟨C1, a1, a2, a3, a4, a5, a6⟩ := hI.freeze1 e
        obtain ⟨C2, b1, b2, b3, b4, b5, b6⟩ := ih a4
        refine ⟨C2, b1.trans a1, b2.trans a2, ?_, b4, a5.trans b5, fun i hi sz' ver' fz' es' he => ?_⟩
        · rw [b3, a3, frz_upd e]
          simp only [frz, e]
          rw [show (id, Obj.arr sz ver true es) :: frz C.ρ r = [(id, Obj.arr sz ver true es)] ++ frz C.ρ r from rfl, updL_append]
        · by_cases ei : i = id
          · subst ei
            rw [e] at he
            cases he
            exact RowD.mono b5.F _ _ _ _ a6
          · cases hi with
            | head => exact absurd rfl ei
            | tail _ hi =>
              have : C1.ρ i = some (.arr sz' ver' fz' es') := by
                rw [a3]; simp only [updL]; rw [if_neg (fun e => ei e.symm)]; exact he
              have := b6 i hi sz' ver' fz' es' this
              rwa [a2] at this

/-- a value read as data, once the arrays that it leads to are frozen -/
theorem decLeaf_rep {C' : Ctx} (hg : C.F.le C'.F) {x : AVal} {d : Dat} {fs : List Id} {val : Value}
    (hfz : ∀ id ∈ fs, ∀ sz ver fz es, C.ρ id = some (.arr sz ver fz es) → RowD C'.F es (C.μ id).b (C.μ id).o sz) (h : decLeaf C.ρ x = some (d, fs)) (hr : RepA C x val) : RepV C'.F d val := by
  unfold decLeaf at h
  split at h
  · simp only [Option.some.injEq, Prod.mk.injEq] at h
    rw [← h.1]
    simp only [RepA] at hr
    exact hr.mono hg
  · simp only [Option.some.injEq, Prod.mk.injEq] at h
    rw [← h.1]
    simp only [RepA] at hr
    subst hr
    exact repV_leaf rfl (by simp [RepD])
  · simp only [Option.some.injEq, Prod.mk.injEq] at h
    rw [← h.1]
    simp only [RepA] at hr
    obtain ⟨p, c, h1, h2⟩ := hr
    subst h1
    exact repV_leaf rfl (by simp [RepD])
  · rename_i id ver sz off len
    split at h
    · rename_i sz' ver' fz es hρ
      split at h
      · rename_i hc
        obtain ⟨rfl, rfl, hb⟩ := hc
        simp only [Option.some.injEq, Prod.mk.injEq] at h
        obtain ⟨rfl, rfl⟩ := h
        have hrow := hfz id (by simp) _ _ _ _ hρ
        simp only [RepA] at hr
        obtain ⟨A, p, cap, q1, q2, q3, q4, q5, q6⟩ := hr
        have hA : A = ⟨ver, sz, es.length, C.μ id⟩ := by simpa [arrAt, hρ] using q1.symm
        subst hA
        obtain ⟨g1, g2, g3, g4⟩ := q6 rfl
        subst q3
        refine repV_leaf rfl ?_
        simp only [RepD]
        have hlen : ((es.drop off).take len).length = len := by simp; omega
        refine ⟨p, cap, by rw [hlen], by omega, ?_⟩
        by_cases hl : (es.drop off).take len = []
        · exact .inl hl
        · right
          have : 0 < len := by
            rcases Nat.eq_zero_or_pos len with h | h
            · subst h; simp at hl
            · exact h
          exact ⟨_, _, sz, g4 (by omega), (hrow.drop off).take len⟩
      · cases h
    · cases h
  · cases h

theorem decLeaves_rep {C' : Ctx} (hg : C.F.le C'.F) : ∀ {l : List AVal} {ds : List Dat} {fs : List Id} {vs : List Value},
    (∀ id ∈ fs, ∀ sz ver fz es, C.ρ id = some (.arr sz ver fz es) → RowD C'.F es (C.μ id).b (C.μ id).o sz) → decLeaves C.ρ l = some (ds, fs) → RepL C l vs → AggD C'.F ds vs
  | [], ds, fs, vs, hfz, h, hr => by
    simp [decLeaves] at h
    rw [h.1]
    simpa [RepL, AggD] using hr
  | x :: l, ds, fs, vs, hfz, h, hr => by
    simp only [decLeaves] at h
    cases e1 : decLeaf C.ρ x with
    | none => simp [e1] at h
    | some p =>
      cases e2 : decLeaves C.ρ l with
      | none => simp [e1, e2] at h
      | some q =>
        simp only [e1, e2] at h
        split at h
        · cases h
        · rename_i hagg
          simp only [Option.some.injEq, Prod.mk.injEq] at h
          obtain ⟨rfl, rfl⟩ := h
          simp only [RepL] at hr
          obtain ⟨c, cs, rfl, h2, h3⟩ := hr
          have hd : p.1.isAgg = false := by simpa using hagg
          refine ⟨c, cs, rfl, hd, ?_, decLeaves_rep hg (fun id hid => hfz id (by simp [hid])) e2 h3⟩
          exact (decLeaf_rep hg (fun id hid => hfz id (by simp [hid])) e1 h2).cell hd

theorem dec_rep {C' : Ctx} (hg : C.F.le C'.F) {x : AVal} {d : Dat} {fs : List Id} {val : Value}
    (hfz : ∀ id ∈ fs, ∀ sz ver fz es, C.ρ id = some (.arr sz ver fz es) → RowD C'.F es (C.μ id).b (C.μ id).o sz) (h : dec C.ρ x = some (d, fs)) (hr : RepA C x val) : RepV C'.F d val := by
  unfold dec at h
  split at h
  · rename_i l
    split at h
    · rename_i ds fs' hds
      simp only [Option.some.injEq, Prod.mk.injEq] at h
      obtain ⟨rfl, rfl⟩ := h
      simp only [RepA] at hr
      obtain ⟨cs, rfl, h1, h2, h3⟩ := hr
      exact repV_agg (decLeaves_rep hg hfz hds h1)
    · cases h
  · exact decLeaf_rep hg hfz h hr

/-- values as the elements of a row -/
theorem decAll_rep {C' : Ctx} (hg : C.F.le C'.F) {sz : Nat} : ∀ {l : List AVal} {ds : List Dat} {fs : List Id} {vs : List Value},
    (∀ id ∈ fs, ∀ sz ver fz es, C.ρ id = some (.arr sz ver fz es) → RowD C'.F es (C.μ id).b (C.μ id).o sz) → decAll C.ρ l = some (ds, fs) → RepL C l vs → ds.all (fun d => d.width == sz) = true →
    FlatD C'.F sz ds (vs.map (·.cells.toList)).flatten ∧ (∀ v ∈ vs, v.cells.size = sz) ∧ ds.length = vs.length
  | [], ds, fs, vs, hfz, h, hr, hw => by
    simp [decAll] at h
    simp only [RepL] at hr
    subst hr
    rw [h.1]
    simp [FlatD]
  | x :: l, ds, fs, vs, hfz, h, hr, hw => by
    simp only [decAll] at h
    cases e1 : dec C.ρ x with
    | none => simp [e1] at h
    | some p =>
      cases e2 : decAll C.ρ l with
      | none => simp [e1, e2] at h
      | some q =>
        simp only [e1, e2, Option.some.injEq, Prod.mk.injEq] at h
        obtain ⟨rfl, rfl⟩ := h
        simp only [RepL] at hr
        obtain ⟨c, cs, rfl, h2, h3⟩ := hr
        simp only [List.all_cons, Bool.and_eq_true, beq_iff_eq] at hw
        have hv := dec_rep hg (fun id hid => hfz id (by simp [hid])) e1 h2
        obtain ⟨i1, i2, i3⟩ := decAll_rep hg (fun id hid => hfz id (by simp [hid])) e2 h3 hw.2
        have hc : c.cells.toList.length = sz := by rw [hv.1.length]; exact hw.1
        refine ⟨?_, ?_, by simp [i3]⟩
        · simp only [List.map_cons, List.flatten_cons, FlatD]
          exact ⟨_, _, rfl, hc, hv.1, i1⟩
        · intro v hv'
          cases hv' with
          | head => simpa using hc
          | tail _ hv' => exact i2 v hv'

end
end Go.Am

/- The abstract machine: the operations on memory, one by one. -/
set_option linter.unusedVariables false
set_option linter.unusedSimpArgs false
namespace Go.Am

section
variable {P : Program} {o : Oper} {a : Act} {B : Base} {C : Ctx} {g : Nat → AVal}

/-! ## Bytes to a string -/

theorem flat_bytes {F : Froz} : ∀ {ds : List Dat} {cs : List Value} {s : List UInt8}, FlatD F 1 ds cs → allSome (ds.map fun | .int .u8 n => some (UInt8.ofNat n.toNat) | _ => none) = some s →
    ∃ ns : List Int, cs = ns.map (Value.int .u8) ∧ s = ns.map fun n => UInt8.ofNat n.toNat
  | [], cs, s, h, hs => by
    simp only [FlatD] at h
    simp [allSome] at hs
    exact ⟨[], by simp [h], by simp [hs]⟩
  | d :: r, cs, s, h, hs => by
    simp only [FlatD] at h
    obtain ⟨c, cs', rfl, h1, h2, h3⟩ := h
    simp only [List.map_cons] at hs
    cases d with
    | int k n =>
      cases k <;> simp [allSome] at hs
      case u8 =>
        cases e : allSome (r.map fun | .int .u8 n => some (UInt8.ofNat n.toNat) | _ => none) with
        | none => rw [e] at hs; simp at hs
        | some s' =>
          rw [e] at hs
          simp at hs
          subst hs
          obtain ⟨ns, q1, q2⟩ := flat_bytes h3 e
          simp only [RepD] at h2
          exact ⟨n :: ns, by simp [h2, q1], by simp [q2]⟩
    | _ => simp [allSome] at hs

theorem op_b2s (hI : Inv B C) (hE : RepE C g a) {s d e : TypeId} {x : Operand} {ax : AX} {l : List Dat} {r : List UInt8} (ho : o.op = .convert s d x) (hx : cX x = some ax)
    (hs : P.underlying s = some (.slice e)) (he : P.underlying e = some (.int .u8)) (hd : P.underlying d = some .string)
    (hl : elemsOf C.ρ 1 (evX g ax) = some l) (hr : allSome (l.map fun | .int .u8 n => some (UInt8.ofNat n.toNat) | _ => none) = some r) : Does P o a C.w (Owes B C (.dat (.str r)) []) := by
  obtain ⟨p, cap, cs, h1, h2, h3⟩ := elemsOf_rep hI hl (cX_rep hE hx)
  obtain ⟨ns, q1, q2⟩ := flat_bytes h2 hr
  refine does_same hI (val := .string ⟨r.toArray⟩) ?_ (rep_mk_str C _)
  have hlen := h2.length
  have hcv : (convert s d (a.eval x)).run P C.w = .ok (.string ⟨r.toArray⟩) C.w := by
    rw [h1, run_convert_bytes_string C.w s d e p l.length cap hs he hd]
    cases p with
    | none =>
      have : l = [] := by
        cases l with
        | nil => rfl
        | cons x y => obtain ⟨b, o, q, _⟩ := h3 (by simp); cases q
      subst this
      simp only [FlatD] at h2
      subst h2
      have : ns = [] := by simpa using q1.symm
      subst this
      subst q2
      rfl
    | some p =>
      have hload : (loadCells p l.length).run P C.w = .ok (ns.map (Value.int .u8)).toArray C.w := by
        have hc : cs.length = l.length := by simpa using hlen
        rw [← hc, ← q1]
        refine run_loadCells_list C.w p cs ?_
        intro j v hj
        have hpos : 0 < l.length := by rw [← hc]; exact Nat.lt_of_le_of_lt (Nat.zero_le _) (List.getElem?_eq_some_iff.1 hj).1
        obtain ⟨b, o, e1, e2⟩ := h3 hpos
        cases e1
        rw [Addr.add_mk]; exact e2 j v hj
      rw [run_bytesToString C.w p l.length cap ns hload, foldl_push_bytes, q2]
      congr 2
      apply ByteArray.ext
      simp
  simp only [execOp, ho, Sem.run_bind, hcv, Result.andThen_ok, Sem.run_pure]

/-! ## New boxes -/

theorem own_new (C : Ctx) (hI : Inv B C) (cs : Array Value) (t : TypeId) (C' : Ctx) (hw : C'.w = C.w.alloc (.cells cs t)) (hF : C'.F = C.F) : OwnOK C' ⟨C.w.heap.size, 0, cs.size⟩ := by
  intro j hj
  rw [hw, hF]
  simp only [Nat.zero_add]
  refine ⟨⟨cs[j], by simp [hj]⟩, by simp, ?_⟩
  cases e : C.F C.w.heap.size j with
  | none => rfl
  | some v => have := World.block_lt_of_cell? _ _ (hI.Fw _ _ _ e); simp at this

theorem box_new (hI : Inv B C) {id : Id} (hid : C.ρ id = none) {cells : List AVal} {cs : Array Value} (hr : RepL C cells cs.toList) (hl : cells.all AVal.leaf = true) (t : TypeId) :
    Owes B C (.ref id 0) [(id, .box cells)] (.pointer (some ⟨C.w.heap.size, 0, none⟩)) (C.w.alloc (.cells cs t)) := by
  have hlen : cs.size = cells.length := by simpa using hr.length
  obtain ⟨h1, h2, h3⟩ := hI.allocO (C.w.alloc (.cells cs t)) (Kept.alloc _ _ _ _) id (.box cells) ⟨C.w.heap.size, 0, cs.size⟩
    ⟨by simp [hid], fun A hA => by simp [arrAt, hid] at hA⟩ (.inl (Nat.le_refl _)) (fun C' e1 e2 hg => by
      refine ⟨hlen, hl, own_new C hI cs t C' e1 e2, fun j x hj => ?_⟩
      obtain ⟨c, hc, hx⟩ := hr.get hj
      refine ⟨c, ?_, hx.grow hg⟩
      rw [e1]
      simpa using hc)
  refine ⟨_, rfl, h3, h1, h2, ?_⟩
  simp only [RepA]
  exact ⟨⟨C.w.heap.size, 0, cs.size⟩, by simp [boxAt], by simp⟩

theorem op_box (hI : Inv B C) (hE : RepE C g a) {t : TypeId} {x : Operand} {ax : AX} {site : Nat} (ho : o.op = .box t x) (hx : cX x = some ax)
    (hid : C.ρ (site + 1, 0) = none) (hl : (evX g ax).cells.all AVal.leaf = true) : Does P o a C.w (Owes B C (.ref (site + 1, 0) 0) [((site + 1, 0), .box (evX g ax).cells)]) := by
  have hr := cX_rep hE hx
  have := box_new hI hid (hr.cells hl).1 hl t
  refine .inl ⟨_, _, ?_, this⟩
  simp [execOp, ho, Instr.box, newVar, newRow]

theorem op_alc (hI : Inv B C) {t : TypeId} {q : TI} {zero : List AVal} {site : Nat} (ho : o.op = .alloc t) (hq : tI P t = some q) (hz : q.zero = some zero) (hid : C.ρ (site + 1, 0) = none) :
    Does P o a C.w (Owes B C (.ref (site + 1, 0) 0) [((site + 1, 0), .box zero)]) := by
  obtain ⟨v, hv, hc⟩ := tI_zero hq hz
  obtain ⟨h1, h2, h3⟩ := cst_reps (C := C) hc
  have := box_new hI hid (cs := v.cells) h1 h2 t
  refine .inl ⟨_, _, ?_, this⟩
  simp [execOp, ho, Instr.alloc, newVar, newRow, hv]

/-! ## Struct values -/

theorem RepL.splice {l : List AVal} {cs : List Value} (h : RepL C l cs) {v : List AVal} {c : List Value} (hv : RepL C v c) (off : Nat) : RepL C (splice l off v) (splice cs off c) := by
  unfold Am.splice
  rw [hv.length]
  exact ((h.take off).append hv).append (h.drop _)

theorem all_splice {l v : List AVal} (h : l.all AVal.leaf = true) (hv : v.all AVal.leaf = true) (off : Nat) : (splice l off v).all AVal.leaf = true := by
  unfold splice
  rw [List.all_eq_true] at h hv ⊢
  intro x hx
  simp only [List.mem_append] at hx
  rcases hx with (hx | hx) | hx
  · exact h x (List.mem_of_mem_take hx)
  · exact hv x hx
  · exact h x (List.mem_of_mem_drop hx)

theorem RepL.one {l : List AVal} {cs : List Value} (h : RepL C l cs) (hl : l.all AVal.leaf = true) : ∀ c ∈ cs, c.oneCell' = true := by
  intro c hc
  obtain ⟨i, hi⟩ := List.getElem?_of_mem hc
  obtain ⟨x, hx⟩ : ∃ x, l[i]? = some x := ⟨_, List.getElem?_eq_getElem (by rw [← h.length]; exact (List.getElem?_eq_some_iff.1 hi).1)⟩
  obtain ⟨c', e1, e2⟩ := h.get hx
  rw [hi] at e1
  cases e1
  rw [List.all_eq_true] at hl
  exact (e2.leaf (hl x (List.mem_of_getElem? hx))).1

def All2 {α β : Type} (R : α → β → Prop) : List α → List β → Prop
  | [], [] => True
  | a :: l, b :: r => R a b ∧ All2 R l r
  | _, _ => False

theorem fillE_run (place : Nat → Option (Nat × Nat)) : ∀ (parts : List (Nat × Value)) (aparts : List (Nat × Nat × AVal)) (cells : Array Value) (cs r : List AVal),
    (All2 (fun p q => place p.1 = some (q.1, q.2.1) ∧ RepA C q.2.2 p.2) parts aparts) → RepL C cs cells.toList → cs.all AVal.leaf = true → fillE cs aparts = some r →
    ∃ out, Instr.fill place cells parts = some out ∧ RepL C r out.toList ∧ r.all AVal.leaf = true
  | [], [], cells, cs, r, h2, hr, hl, h => by
    simp only [fillE, Option.some.injEq] at h
    subst h
    exact ⟨cells, rfl, hr, hl⟩
  | [], _ :: _, cells, cs, r, h2, hr, hl, h => h2.elim
  | _ :: _, [], cells, cs, r, h2, hr, hl, h => h2.elim
  | (i, v) :: parts, (off, n, x) :: qs, cells, cs, r, h2, hr, hl, h => by
    obtain ⟨hp, h2⟩ := h2
    simp only [fillE] at h
    split at h
    · rename_i hc
      obtain ⟨c1, c2, c3⟩ := hc
      have hx := hp.2.cells c3
      have hvs : v.cells.size = n := by have := hx.1.length; rw [c1] at this; simpa using this
      have hcl : cells.size = cs.length := by simpa using hr.length
      obtain ⟨cells', e1, e2⟩ := fill_step (off := off) (size := n) place cells i v parts hp.1 hvs (by omega)
      rw [e1]
      exact fillE_run place parts qs cells' _ r h2 (by rw [e2]; exact hr.splice hx.1 off) (all_splice hl c3 off) h
    · cases h

theorem partsOf_spec {t : TypeId} {parts : List (Nat × Operand)} {ps : List (Nat × Nat × AX)} (h : partsOf P t parts = some ps) :
    All2 (fun p q => ∃ i, fieldT P t p.1 = some (q.1, i) ∧ i.size = q.2.1 ∧ cX p.2 = some q.2.2) parts ps := by
  unfold partsOf at h
  induction parts generalizing ps with
  | nil => simp [allSome] at h; subst h; exact trivial
  | cons p r ih =>
    simp only [List.map_cons] at h
    cases e1 : fieldT P t p.1 with
    | none => simp [allSome, e1] at h
    | some q =>
      cases e2 : cX p.2 with
      | none => simp [allSome, e1, e2] at h
      | some x =>
        simp only [e1, e2, allSome] at h
        split at h
        · rename_i r' hr'
          simp only [Option.some.injEq] at h
          subst h
          exact ⟨⟨q.2, e1, rfl, e2⟩, ih hr'⟩
        · cases h

theorem run_mapM_places {fs : List Field} : ∀ (w : World), (∀ fd ∈ fs, ∃ q, tI P fd.type = some q) →
    ∃ ps : List (Nat × Nat), (fs.mapM fun fd => (do pure (fd.offset, ← sizeOf fd.type) : Sem (Nat × Nat))).run P w = .ok ps w ∧ ps.length = fs.length ∧
      ∀ (i : Nat) (fd : Field) (q : TI), fs[i]? = some fd → tI P fd.type = some q → ps[i]? = some (fd.offset, q.size) := by
  induction fs with
  | nil => intro w _; exact ⟨[], by simp, rfl, by simp⟩
  | cons fd r ih =>
    intro w h
    obtain ⟨q, hq⟩ := h fd (by simp)
    obtain ⟨ps, h1, h2, h3⟩ := ih w (fun x hx => h x (by simp [hx]))
    refine ⟨(fd.offset, q.size) :: ps, ?_, by simp [h2], fun i x q' hi hq' => ?_⟩
    · simp only [List.mapM_cons, Sem.run_bind, run_sizeOf hq, Sem.run_pure, Result.andThen_ok, h1]
    · cases i with
      | zero => simp at hi; subst hi; rw [hq] at hq'; cases hq'; rfl
      | succ i => simp at hi; simpa using h3 i x q' hi hq'

theorem op_bld (hI : Inv B C) (hE : RepE C g a) {t : TypeId} {parts : Array (Nat × Operand)} {q : TI} {zero cs : List AVal} {ps : List (Nat × Nat × AX)} (ho : o.op = .build t parts) (hq : tI P t = some q) (hz : q.zero = some zero)
    (hps : partsOf P t parts.toList = some ps) (hall : ∃ fs, P.underlying t = some (.struct fs) ∧ ∀ fd ∈ fs.toList, (tI P fd.type).isSome = true)
    (h : fillE zero (ps.map fun p => (p.1, p.2.1, evX g p.2.2)) = some cs) : Does P o a C.w (Owes B C (.agg cs) []) := by
  obtain ⟨v, hv, hc⟩ := tI_zero hq hz
  obtain ⟨z1, z2, z3⟩ := cst_reps (C := C) hc
  obtain ⟨fs, hu, hfs⟩ := hall
  obtain ⟨places, p1, p2, p3⟩ := run_mapM_places (P := P) (fs := fs.toList) C.w (fun fd hfd => Option.isSome_iff_exists.1 (hfs fd hfd))
  have hsp := partsOf_spec hps
  have hf2 : All2 (fun (p : Nat × Value) (q : Nat × Nat × AVal) => (places.toArray[p.1]? = some (q.1, q.2.1)) ∧ RepA C q.2.2 p.2) (parts.toList.map fun p => (p.1, a.eval p.2)) (ps.map fun p => (p.1, p.2.1, evX g p.2.2)) := by
    clear h hps
    generalize parts.toList = L at hsp
    induction L generalizing ps with
    | nil => cases ps with
      | nil => exact trivial
      | cons => exact hsp.elim
    | cons p L ih => cases ps with
      | nil => exact hsp.elim
      | cons q qs =>
        obtain ⟨hp, hsp⟩ := hsp
        refine ⟨?_, ih hsp⟩
        obtain ⟨i, e1, e2, e3⟩ := hp
        obtain ⟨fs', fd, hu', hfd, hti, hoff⟩ := fieldT_spec e1
        rw [hu] at hu'
        cases hu'
        refine ⟨?_, cX_rep hE e3⟩
        have := p3 p.1 fd i (by simpa using hfd) hti
        simpa [hoff, e2] using this
  obtain ⟨out, f1, f2, f3⟩ := fillE_run (C := C) (places.toArray[·]?) _ _ v.cells zero cs hf2 z1 z2 h
  refine does_same hI (val := .agg out) ?_ ?_
  · have hm : (fs.mapM fun fd => (do pure (fd.offset, ← sizeOf fd.type) : Sem (Nat × Nat))).run P C.w = .ok places.toArray C.w := by
      rw [Array.mapM_eq_mapM_toList]
      simp only [Sem.run_map, p1, Result.andThen_ok]
    have hpl : (parts.map fun p => (p.1, a.eval p.2)).toList = parts.toList.map fun p => (p.1, a.eval p.2) := by simp
    simp only [execOp, ho, Instr.build, Sem.run_bind, hv, Result.andThen_ok, run_underlying hu, hm, Array.toList_map, f1, Sem.run_pure]
  · simp only [RepA]
    exact ⟨out, rfl, f2, f3, by simpa using f2.one f3⟩

/-! ## Literals -/

theorem run_buildSlice' {t e : TypeId} {q : TI} (ht : P.underlying t = some (.slice e)) (hq : tI P e = some q) (hz : q.zero.isSome = true) {vs : List Value} (hs : ∀ v ∈ vs, v.cells.size = q.size)
    (hroom : vs.length * q.size ≤ 1048576) {parts : Array (Nat × Value)} (hp : parts.toList = (List.range vs.length).zip vs) (w : World) :
    ∃ out : Array Value, out.toList = (vs.map (·.cells.toList)).flatten ∧
      (Instr.buildSlice t vs.length parts).run P w = .ok (.slice (some ⟨w.heap.size, 0, none⟩) vs.length vs.length) (w.alloc (.cells out e)) := by
  obtain ⟨z, hzv⟩ := tI_zero_some hq hz
  have main : ∀ (zc : Array Value), ∃ out : Array Value, out.toList = (vs.map (·.cells.toList)).flatten ∧
      Instr.fill (fun i => some (i * q.size, q.size)) ((Array.range (vs.length * q.size)).map (zc[· % zc.size]!)) parts.toList = some out := by
    intro zc
    obtain ⟨out, f1, f2⟩ := fill_row q.size vs 0 ((Array.range (vs.length * q.size)).map (zc[· % zc.size]!)) hs (by simp)
    rw [← List.range_eq_range'] at f1
    exact ⟨out, by simpa using f2, by rw [hp]; exact f1⟩
  have hb : ¬ (vs.length * q.size > 2 ^ 24) := by omega
  by_cases hc : vs.length * q.size = 0
  · obtain ⟨out, f1, f2⟩ := main #[]
    refine ⟨out, f1, ?_⟩
    unfold Instr.buildSlice
    simp only [Sem.run_bind, run_underlying ht, Result.andThen_ok, run_sizeOf hq]
    rw [if_neg hb, if_pos hc]
    simp only [Sem.run_bind, Sem.run_pure, Result.andThen_ok]
    simp only [f2, newRow, Sem.run_bind, run_newObj, Result.andThen_ok, Sem.run_pure]
    rfl
  · obtain ⟨out, f1, f2⟩ := main z.cells
    refine ⟨out, f1, ?_⟩
    unfold Instr.buildSlice
    simp only [Sem.run_bind, run_underlying ht, Result.andThen_ok, run_sizeOf hq]
    rw [if_neg hb, if_neg hc]
    simp only [Sem.run_bind, Sem.run_pure, Result.andThen_ok, hzv]
    simp only [f2, newRow, Sem.run_bind, run_newObj, Result.andThen_ok, Sem.run_pure]
    rfl

/-- what the operands of a literal come to -/
theorem bldS_args (hE : RepE C g a) {parts : Array (Nat × Operand)} {axs : List AX} (h : cXs (parts.map (·.2)) = some axs) (hn : parts.toList.map (·.1) = List.range parts.size) :
    RepL C (axs.map (evX g)) (parts.toList.map fun p => a.eval p.2) ∧ (parts.map fun p => (p.1, a.eval p.2)).toList = (List.range (parts.toList.map fun p => a.eval p.2).length).zip (parts.toList.map fun p => a.eval p.2) := by
  refine ⟨?_, ?_⟩
  · have := cXs_rep (C := C) hE h
    simpa [Function.comp_def] using this
  · have e : (parts.map fun p => (p.1, a.eval p.2)).toList = (parts.toList.map (·.1)).zip (parts.toList.map fun p => a.eval p.2) := by
      rw [List.zip_map']; simp
    rw [e, hn]
    simp

theorem op_bldSd (hI : Inv B C) (hE : RepE C g a) {t e : TypeId} {n : Nat} {parts : Array (Nat × Operand)} {q : TI} {axs : List AX} {ds : List Dat} {fs : List Id} (ho : o.op = .buildSlice t n parts)
    (ht : P.underlying t = some (.slice e)) (hq : tI P e = some q) (hz : q.zero.isSome = true) (hx : cXs (parts.map (·.2)) = some axs) (hn : parts.toList.map (·.1) = List.range n) (hroom : n * q.size ≤ 1048576)
    (h : decAll C.ρ (axs.map (evX g)) = some (ds, fs)) (hw : ds.all (fun d => d.width == q.size) = true) : Does P o a C.w (Owes B C (.dat (.sl ds)) (frz C.ρ fs)) := by
  have hps : parts.size = n := by have := congrArg List.length hn; simpa using this
  subst hps
  obtain ⟨h1, h2⟩ := bldS_args (C := C) hE hx hn
  obtain ⟨C1, c1, c2, c3, c4, c5, c6⟩ := hI.freeze fs
  obtain ⟨f1, f2, f3⟩ := decAll_rep c5.F c6 h h1 hw
  have hl : (parts.toList.map fun p => a.eval p.2).length = parts.size := by simp
  obtain ⟨out, r1, r2⟩ := run_buildSlice' (P := P) ht hq hz f2 (by rw [hl]; exact hroom) h2 C.w
  have := c4.allocF out e
  simp only at this
  obtain ⟨d1, d2⟩ := this
  rw [hl] at r2
  refine .inl ⟨.slice (some ⟨C.w.heap.size, 0, none⟩) parts.size parts.size, C.w.alloc (.cells out e), ?_, { w := C1.w.alloc (.cells out e), F := C1.F.add C1.w.heap.size out.toList, μ := C1.μ, ρ := C1.ρ }, ?_, c3, d1, c5.trans d2, ?_⟩
  · simp only [execOp, ho, Sem.run_bind, r2, Result.andThen_ok, Sem.run_pure]
  · rw [c1]
  · simp only [RepA]
    refine repV_leaf rfl ?_
    simp only [RepD]
    have hlen : ds.length = parts.size := by rw [f3, hl]
    refine ⟨some ⟨C.w.heap.size, 0, none⟩, parts.size, by rw [hlen], by omega, .inr ⟨C.w.heap.size, 0, q.size, rfl, ?_⟩⟩
    refine flat_row (f1.mono d2.F) ?_
    rw [← r1]
    have := cellsAt_add C1.F C1.w.heap.size out.toList
    rw [c1] at this ⊢
    exact this

theorem arr_new (hI : Inv B C) {id : Id} {nv sz : Nat} (hid : newVer C.ρ id = some nv) (hsz : 1 ≤ sz) {ds : List Dat} {cs : Array Value} (cap : Nat) (hr : ∃ tl, FlatD C.F sz ds (cs.toList.take (ds.length * sz)) ∧ cs.size = cap * sz ∧ tl = cs) (hcap : ds.length ≤ cap) (t : TypeId) :
    Owes B C (.rsl id nv sz 0 ds.length) [(id, .arr sz nv false ds)] (.slice (some ⟨C.w.heap.size, 0, none⟩) ds.length cap) (C.w.alloc (.cells cs t)) := by
  obtain ⟨_, hf, hsize, _⟩ := hr
  obtain ⟨n1, n2, n3⟩ := newVer_lt hid
  obtain ⟨h1, h2, h3⟩ := hI.allocO (C.w.alloc (.cells cs t)) (Kept.alloc _ _ _ _) id (.arr sz nv false ds) ⟨C.w.heap.size, 0, cs.size⟩
    ⟨n1, fun A hA => by
      simp only [arrAt] at hA
      split at hA
      · rename_i e; simp only [Option.some.injEq] at hA; subst hA; exact n2 _ _ _ _ e
      · rename_i e; simp only [Option.some.injEq] at hA; subst hA; exact n3 _ _ e
      · cases hA⟩ (.inl (Nat.le_refl _)) (fun C' e1 e2 hg => by
      refine ⟨hsz, ⟨cap, hsize, hcap⟩, fun _ => ⟨own_new C hI cs t C' e1 e2, fun i d hd => ?_⟩, fun e => by cases e⟩
      obtain ⟨c, q1, q2, q3⟩ := hf.get hd
      refine ⟨c, q1, RepD.mono hg.F _ _ q2, fun j v hj => ?_⟩
      have := q3 j v hj
      rw [e1]
      rw [List.getElem?_take] at this
      split at this
      · simpa using this
      · cases this)
  refine ⟨_, rfl, h3, h1, h2, ?_⟩
  simp only [RepA]
  refine ⟨⟨nv, sz, ds.length, ⟨C.w.heap.size, 0, cs.size⟩⟩, some ⟨C.w.heap.size, 0, none⟩, cap, by simp [arrAt], Nat.le_refl _, rfl, hcap, by simp, fun _ => ⟨rfl, by simp, by simpa using hsize, by simp⟩⟩

theorem op_bldSo (hI : Inv B C) (hE : RepE C g a) {t e : TypeId} {n site nv : Nat} {parts : Array (Nat × Operand)} {q : TI} {axs : List AX} {ds : List Dat} {fs : List Id} (ho : o.op = .buildSlice t n parts)
    (ht : P.underlying t = some (.slice e)) (hq : tI P e = some q) (hq1 : 1 ≤ q.size) (hz : q.zero.isSome = true) (hx : cXs (parts.map (·.2)) = some axs) (hn : parts.toList.map (·.1) = List.range n) (hroom : n * q.size ≤ 1048576)
    (h : decAll C.ρ (axs.map (evX g)) = some (ds, fs)) (hw : ds.all (fun d => d.width == q.size) = true) (hid : newVer C.ρ (site + 1, 0) = some nv) (hfs : (site + 1, 0) ∉ fs) :
    Does P o a C.w (Owes B C (.rsl (site + 1, 0) nv q.size 0 ds.length) (frz C.ρ fs ++ [((site + 1, 0), .arr q.size nv false ds)])) := by
  have hps : parts.size = n := by have := congrArg List.length hn; simpa using this
  subst hps
  obtain ⟨h1, h2⟩ := bldS_args (C := C) hE hx hn
  obtain ⟨C1, c1, c2, c3, c4, c5, c6⟩ := hI.freeze fs
  obtain ⟨f1, f2, f3⟩ := decAll_rep c5.F c6 h h1 hw
  have hl : (parts.toList.map fun p => a.eval p.2).length = parts.size := by simp
  obtain ⟨out, r1, r2⟩ := run_buildSlice' (P := P) ht hq hz f2 (by rw [hl]; exact hroom) h2 C.w
  have hlen : ds.length = parts.size := by rw [f3, hl]
  have hfz : ∀ (fs : List Id), (site + 1, 0) ∉ fs → ∀ ρ : Look, updL ρ (frz C.ρ fs) (site + 1, 0) = ρ (site + 1, 0) := by
    intro fs
    induction fs with
    | nil => intro _ ρ; rfl
    | cons i r ih =>
      intro hn ρ
      simp only [List.mem_cons, not_or] at hn
      simp only [frz]
      split
      · simp only [updL]
        rw [ih hn.2]
        rw [if_neg (fun e => hn.1 e.symm)]
      · exact ih hn.2 ρ
  have hid1 : newVer C1.ρ (site + 1, 0) = some nv := by
    rw [c3]
    unfold newVer at hid ⊢
    rw [hfz fs hfs]; exact hid
  have hsize : out.size = parts.size * q.size := by
    have := f1.length
    rw [← r1] at this
    simpa [hlen] using this
  obtain ⟨C', w1, w2, w3, w4, w5⟩ := arr_new c4 hid1 hq1 (ds := ds) (cs := out) parts.size ⟨out, by
    rw [List.take_of_length_le (by simp [hsize, hlen])]; rw [r1]; exact f1, hsize, rfl⟩ (by omega) e
  rw [hl] at r2
  refine .inl ⟨.slice (some ⟨C.w.heap.size, 0, none⟩) parts.size parts.size, C.w.alloc (.cells out e), ?_, C', ?_, ?_, w3, c5.trans w4, ?_⟩
  · simp only [execOp, ho, Sem.run_bind, r2, Result.andThen_ok, Sem.run_pure]
  · rw [w1, c1]
  · rw [w2, c3, updL_append]
  · rw [c1, hlen] at w5
    rw [hlen]
    exact w5

theorem op_bldSr (hI : Inv B C) (hE : RepE C g a) {t e : TypeId} {n : Nat} {parts : Array (Nat × Operand)} {q : TI} {axs : List AX} (ho : o.op = .buildSlice t n parts)
    (ht : P.underlying t = some (.slice e)) (hq : tI P e = some q) (hq1 : q.size = 1) (hz : q.zero.isSome = true) (hx : cXs (parts.map (·.2)) = some axs) (hn : parts.toList.map (·.1) = List.range n) (hroom : n * q.size ≤ 1048576)
    (hl : (axs.map (evX g)).all AVal.leaf = true) : Does P o a C.w (Owes B C (.lits (axs.map (evX g))) []) := by
  have hps : parts.size = n := by have := congrArg List.length hn; simpa using this
  subst hps
  obtain ⟨h1, h2⟩ := bldS_args (C := C) hE hx hn
  have hleaf : ∀ v ∈ (parts.toList.map fun p => a.eval p.2), v.oneCell' = true ∧ isAggV v = false := by
    intro c hc
    obtain ⟨i, hi⟩ := List.getElem?_of_mem hc
    obtain ⟨x, hx⟩ : ∃ x, (axs.map (evX g))[i]? = some x := ⟨_, List.getElem?_eq_getElem (by rw [← h1.length]; exact (List.getElem?_eq_some_iff.1 hi).1)⟩
    obtain ⟨c', e1, e2⟩ := h1.get hx
    rw [hi] at e1
    cases e1
    rw [List.all_eq_true] at hl
    exact e2.leaf (hl x (List.mem_of_getElem? hx))
  have hcell : ∀ v ∈ (parts.toList.map fun p => a.eval p.2), v.cells = #[v] := fun v hv => cells_of_not_agg (hleaf v hv).2
  have hll : (parts.toList.map fun p => a.eval p.2).length = parts.size := by simp
  obtain ⟨out, r1, r2⟩ := run_buildSlice' (P := P) ht hq hz (vs := parts.toList.map fun p => a.eval p.2) (fun v hv => by rw [hcell v hv, hq1]; rfl) (by rw [hll]; exact hroom) h2 C.w
  have hflat : ∀ (vs : List Value), (∀ v ∈ vs, v.cells = #[v]) → (vs.map (·.cells.toList)).flatten = vs := by
    intro vs
    induction vs with
    | nil => intro _; rfl
    | cons v r ih =>
      intro h
      simp only [List.map_cons, List.flatten_cons]
      rw [h v (by simp), ih (fun x hx => h x (by simp [hx]))]
      rfl
  rw [hflat _ hcell] at r1
  have := hI.allocF out e
  simp only at this
  obtain ⟨d1, d2⟩ := this
  rw [hll] at r2
  have hax : axs.length = parts.size := by have := h1.length; simpa using this.symm
  refine .inl ⟨.slice (some ⟨C.w.heap.size, 0, none⟩) parts.size parts.size, C.w.alloc (.cells out e), ?_, { w := C.w.alloc (.cells out e), F := C.F.add C.w.heap.size out.toList, μ := C.μ, ρ := C.ρ }, rfl, rfl, d1, d2, ?_⟩
  · simp only [execOp, ho, Sem.run_bind, r2, Result.andThen_ok, Sem.run_pure]
  · simp only [RepA]
    refine ⟨C.w.heap.size, 0, parts.size, out.toList, by simp [hax], by simp [hax], ?_, cellsAt_add _ _ _, hl, ?_⟩
    · have := h1.grow d2
      rw [← r1] at this
      exact this
    · rw [r1]; exact fun c hc => (hleaf c hc).1

/-! ## make -/

theorem run_makeSlice' {t e : TypeId} {q : TI} (ht : P.underlying t = some (.slice e)) (hq : tI P e = some q) {z : Value} (hz : ∀ w, (zeroValue e).run P w = .ok z w) (hzs : z.cells.size = q.size)
    {k k' : IntKind} {l c : Int} (hb : 0 ≤ l ∧ l ≤ c ∧ q.bytes * c ≤ room ∧ c ≤ room) (w : World) :
    ∃ out : Array Value, out.toList = (List.replicate c.toNat z.cells.toList).flatten ∧ out.size = c.toNat * q.size ∧
      (Instr.makeSlice t (.int k l) (.int k' c)).run P w = .ok (.slice (some ⟨w.heap.size, 0, none⟩) l.toNat c.toNat) (w.alloc (.cells out e)) := by
  obtain ⟨i, d, i1, i2, i3, i4, _⟩ := tI_info hq
  obtain ⟨h0, h1, h2, h3⟩ := hb
  have hr : (room : Int) = 1099511627776 := rfl
  have wl : IntKind.i64.wrap l = l := IntWalk.i64_in l ⟨by omega, by omega⟩
  have wc : IntKind.i64.wrap c = c := IntWalk.i64_in c ⟨by omega, by omega⟩
  have t1 : (decide (c < 0) || decide ((i.bytes : Int) * c > 2 ^ 48)) = false := by
    rw [← i4]; simp; omega
  have t2 : (decide (l < 0)) = false := by simp; omega
  have t3 : (decide (l > c)) = false := by simp; omega
  have hflat := zeros_flat z.cells c.toNat
  rw [hzs] at hflat
  refine ⟨(Array.range (c.toNat * q.size)).map (fun j => z.cells[j % z.cells.size]!), by rw [hzs]; exact hflat, by simp, ?_⟩
  unfold Instr.makeSlice
  simp only [Sem.run_bind, run_underlying ht, Result.andThen_ok, asInt, asIntOf, Sem.run_pure, run_typeInfo i1, wl, wc, t1, t2, t3, Bool.or_self, Bool.false_eq_true, if_false, run_askRoom, run_sizeOf hq]
  by_cases hc : c.toNat * q.size = 0
  · have hr0 : Array.range 0 = #[] := rfl
    simp only [hc, if_true, Sem.run_pure, Result.andThen_ok, newRow, Sem.run_bind, run_newObj, hr0, Array.map_empty]
    rfl
  · simp only [hc, if_false, Sem.run_pure, Result.andThen_ok, newRow, Sem.run_bind, run_newObj, hz]
    rfl

theorem mk_zero {e : TypeId} {q : TI} (hq : tI P e = some q) {zero : List AVal} (hz : q.zero = some zero) {z : Dat} (hd : zeroDat zero = some z) (hw : z.width = q.size) :
    ∃ v : Value, (∀ w, (zeroValue e).run P w = .ok v w) ∧ v.cells.size = q.size ∧ ∀ F, RepD F z v.cells.toList := by
  obtain ⟨v, hv, hc⟩ := tI_zero hq hz
  have hrep : ∀ F, RepD F z v.cells.toList := fun F => zeroDat_rep hd hc
  refine ⟨v, hv, ?_, hrep⟩
  have := (hrep (fun _ _ => none)).length
  simpa [hw] using this

theorem op_mkd (hI : Inv B C) (hE : RepE C g a) {t e : TypeId} {l c : Operand} {q : TI} {al ac : AX} {zero : List AVal} {z : Dat} {ln cn : Int} (ho : o.op = .makeSlice t l c) (hl : cX l = some al) (hc : cX c = some ac)
    (ht : P.underlying t = some (.slice e)) (hq : tI P e = some q) (hz : q.zero = some zero) (hln : intOf? (evX g al) = some ln) (hcn : intOf? (evX g ac) = some cn)
    (hb : 0 ≤ ln ∧ ln ≤ cn ∧ q.bytes * cn ≤ room ∧ cn ≤ room) (hd : zeroDat zero = some z) (hw : z.width = q.size ∧ 1 ≤ q.size) : Does P o a C.w (Owes B C (.dat (.sl (List.replicate ln.toNat z))) []) := by
  obtain ⟨v, hv, hvs, hrep⟩ := mk_zero hq hz hd hw.1
  obtain ⟨k, hk⟩ := intOf_rep hln (cX_rep hE hl)
  obtain ⟨k', hk'⟩ := intOf_rep hcn (cX_rep hE hc)
  obtain ⟨out, o1, o2, o3⟩ := run_makeSlice' (P := P) ht hq hv hvs (k := k) (k' := k') hb C.w
  have := hI.allocF out e
  simp only at this
  obtain ⟨d1, d2⟩ := this
  refine .inl ⟨.slice (some ⟨C.w.heap.size, 0, none⟩) ln.toNat cn.toNat, C.w.alloc (.cells out e), ?_, { w := C.w.alloc (.cells out e), F := C.F.add C.w.heap.size out.toList, μ := C.μ, ρ := C.ρ }, rfl, rfl, d1, d2, ?_⟩
  · simp only [execOp, ho, hk, hk', Sem.run_bind, o3, Result.andThen_ok, Sem.run_pure]
  · simp only [RepA]
    refine repV_leaf rfl ?_
    simp only [RepD]
    refine ⟨some ⟨C.w.heap.size, 0, none⟩, cn.toNat, by simp, by simp; omega, .inr ⟨C.w.heap.size, 0, q.size, rfl, ?_⟩⟩
    have hfl : FlatD (C.F.add C.w.heap.size out.toList) q.size (List.replicate cn.toNat z) out.toList := by
      rw [o1, ← hw.1]
      exact flat_replicate (hrep _) _
    have hrow := flat_row hfl (cellsAt_add C.F C.w.heap.size out.toList)
    have := hrow.take ln.toNat
    rwa [List.take_replicate, Nat.min_eq_left (by omega)] at this

theorem op_mko (hI : Inv B C) (hE : RepE C g a) {t e : TypeId} {l c : Operand} {q : TI} {al ac : AX} {zero : List AVal} {z : Dat} {ln cn : Int} {site nv : Nat} (ho : o.op = .makeSlice t l c) (hl : cX l = some al) (hc : cX c = some ac)
    (ht : P.underlying t = some (.slice e)) (hq : tI P e = some q) (hz : q.zero = some zero) (hln : intOf? (evX g al) = some ln) (hcn : intOf? (evX g ac) = some cn)
    (hb : 0 ≤ ln ∧ ln ≤ cn ∧ q.bytes * cn ≤ room ∧ cn ≤ room) (hd : zeroDat zero = some z) (hw : z.width = q.size ∧ 1 ≤ q.size) (hid : newVer C.ρ (site + 1, 0) = some nv) :
    Does P o a C.w (Owes B C (.rsl (site + 1, 0) nv q.size 0 ln.toNat) [((site + 1, 0), .arr q.size nv false (List.replicate ln.toNat z))]) := by
  obtain ⟨v, hv, hvs, hrep⟩ := mk_zero hq hz hd hw.1
  obtain ⟨k, hk⟩ := intOf_rep hln (cX_rep hE hl)
  obtain ⟨k', hk'⟩ := intOf_rep hcn (cX_rep hE hc)
  obtain ⟨out, o1, o2, o3⟩ := run_makeSlice' (P := P) ht hq hv hvs (k := k) (k' := k') hb C.w
  have hlen : (List.replicate ln.toNat z).length = ln.toNat := by simp
  have := arr_new hI hid hw.2 (ds := List.replicate ln.toNat z) (cs := out) cn.toNat ⟨out, by
    have e1 : out.toList = (List.replicate ln.toNat v.cells.toList).flatten ++ (List.replicate (cn.toNat - ln.toNat) v.cells.toList).flatten := by
      rw [o1, ← List.flatten_append, List.replicate_append_replicate]
      congr 2; omega
    have e2 : ((List.replicate ln.toNat v.cells.toList).flatten).length = ln.toNat * q.size := by
      rw [List.length_flatten]; simp [hvs]
    rw [hlen, e1, List.take_append_of_le_length (by rw [e2]; exact Nat.le_refl _), ← e2, List.take_length, ← hw.1]
    exact flat_replicate (hrep _) _, o2, rfl⟩ (by rw [hlen]; omega) e
  rw [hlen] at this
  refine .inl ⟨_, _, ?_, this⟩
  simp only [execOp, ho, hk, hk', Sem.run_bind, o3, Result.andThen_ok, Sem.run_pure]

end
end Go.Am
