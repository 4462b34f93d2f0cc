/- The abstract machine: regions are sound, in the order of the text and in every order that a draw may give. -/
import Derived.Test.YtpmlioigoiipaaaAmMix
set_option linter.unusedVariables false
set_option linter.unusedSimpArgs false
namespace Go.Am

structure GoodF (B : Base) (C0 C : Ctx) (n : Nat) (g : Nat → AVal) (ρ : Look) (a : Act) : Prop where
  ρ : C.ρ = ρ
  inv : Inv B C
  env : RepE C g a
  size : a.tmps.size = n
  ext : Ext (fun i => i) (fun id => id.1 = 0) C0 C
  defers : a.defers = []

theorem Good.f {B : Base} {C0 C : Ctx} {n : Nat} {s : St} {a : Act} (h : Good B C0 C n s a) : GoodF B C0 C n (gE s.env) (gO s.objs) a := ⟨h.ρ, h.inv, h.env, h.size, h.ext, h.defers⟩

theorem GoodF.good {B : Base} {C0 C : Ctx} {n : Nat} {s : St} {a : Act} (h : GoodF B C0 C n (gE s.env) (gO s.objs) a) : Good B C0 C n s a := ⟨h.ρ, h.inv, h.env, h.size, h.ext, h.defers⟩

theorem cOpers_get {P : Program} {n : Nat} {ms : List (Nat × Mk)} {ops : List Oper} : ∀ {r : List Oper} {i : Nat} {l : List (AK × Option (Nat × Bool))}, cOpers P n ms ops i r = some l →
    l.length = r.length ∧ ∀ j o, r[j]? = some o → ∃ k g, l[j]? = some (k, g) ∧ cOper P n ms ops (i + j) o = some (k, g)
  | [], i, l, h => by
    simp only [cOpers, Option.some.injEq] at h
    subst h
    simp
  | o :: r, i, l, h => by
    simp only [cOpers] at h
    split at h
    · rename_i x l' h1 h2
      simp only [Option.some.injEq] at h
      subst h
      obtain ⟨e1, e2⟩ := cOpers_get h2
      refine ⟨by simp [e1], fun j o' hj => ?_⟩
      cases j with
      | zero =>
        simp at hj
        subst hj
        exact ⟨x.1, x.2, rfl, h1⟩
      | succ j =>
        simp at hj
        obtain ⟨k, g, e3, e4⟩ := e2 j o' hj
        exact ⟨k, g, by simpa using e3, by rw [show i + (j + 1) = i + 1 + j by omega]; exact e4⟩
    · cases h

theorem aosOf_get {ps : List (Nat × Nat)} : ∀ {r : List Oper} {l : List (AK × Option (Nat × Bool))} {i : Nat}, l.length = r.length →
    (aosOf ps i r l).length = r.length ∧ ∀ (j : Nat) (o : Oper) (k : AK) (g : Option (Nat × Bool)), r[j]? = some o → l[j]? = some (k, g) → (aosOf ps i r l)[j]? = some (⟨o.dst, k, g, ps.any fun p => p.1 == i + j || p.2 == i + j⟩ : AO)
  | [], l, i, h => by cases l <;> simp [aosOf]
  | o :: r, [], i, h => by simp at h
  | o :: r, (k, g) :: l, i, h => by
    obtain ⟨e1, e2⟩ := aosOf_get (ps := ps) (r := r) (l := l) (i := i + 1) (by simpa using h)
    refine ⟨by simp [aosOf, e1], fun j o' k' g' h1 h2 => ?_⟩
    cases j with
    | zero =>
      simp at h1 h2
      obtain ⟨rfl, rfl⟩ := h2
      subst h1
      simp [aosOf]
    | succ j =>
      simp at h1 h2
      have := e2 j o' k' g' h1 h2
      simp only [aosOf, List.getElem?_cons_succ]
      rw [this, show i + 1 + j = i + (j + 1) by omega]

section
variable {P : Program} {B : Base} {C0 : Ctx} {K : Orc} {n : Nat}

theorem wpOp_good (hS : SoundK P K) {ops : Array Oper} {Q : Exit → Act → World → Prop} {i : Nat} {o : Oper} (hi : ops[i]? = some o) {ms : List (Nat × Mk)} {k : AK} {gd : Option (Nat × Bool)} (hc : cOper P n ms ops.toList i o = some (k, gd)) {lg : Bool}
    {C : Ctx} {g : Nat → AVal} {ρ : Look} {a : Act} (h : GoodF B C0 C n g ρ a) {out : Out} (ho : aoE K ⟨o.dst, k, gd, lg⟩ g ρ = some out) {next : Act → World → Prop}
    (hnext : ∀ a' C', GoodF B C0 C' n (fun t => if o.dst = some t then out.1 else g t) (updL ρ out.2) a' → next a' C'.w) :
    wpOp P ops Q i next a C.w := by
  refine wpOp_sound hS hi hc h.inv h.env h.size (by rw [h.ρ]; exact ho) fun val C' e1 e2 e3 e4 e5 => ?_
  refine hnext _ C' ⟨by rw [e1, h.ρ], e2, e4, e5, h.ext.thenGrow e3, ?_⟩
  have := h.defers
  cases o.dst <;> simpa [Act.put] using this

/-- a region in the order of the text -/
theorem seq_sound (hS : SoundK P K) {ops : Array Oper} {Q : Exit → Act → World → Prop} {ms : List (Nat × Mk)} {l : List (AK × Option (Nat × Bool))} (hl : cOpers P n ms ops.toList 0 ops.toList = some l) {ps : List (Nat × Nat)} :
    ∀ (m i : Nat) (s : St) (lg : Log) (s' : St) (lg' : Log) (C : Ctx) (a : Act), i + m = ops.size → runOps K i ((aosOf ps 0 ops.toList l).drop i) s lg = some (s', lg') → GoodF B C0 C n (gE s.env) (gO s.objs) a →
      (∀ a' C', GoodF B C0 C' n (gE s'.env) (gO s'.objs) a' → Q .normal a' C'.w) → wpOps P ops Q (List.range' i m) a C.w := by
  obtain ⟨hlen, hget⟩ := cOpers_get hl
  obtain ⟨alen, aget⟩ := aosOf_get (ps := ps) (i := 0) hlen
  intro m
  induction m with
  | zero =>
    intro i s lg s' lg' C a hi h hG hQ
    rw [List.drop_of_length_le (by rw [alen]; simp; omega)] at h
    simp only [runOps, Option.some.injEq, Prod.mk.injEq] at h
    obtain ⟨rfl, rfl⟩ := h
    simp only [List.range'_zero, wpOps]
    exact hQ a C hG
  | succ m ih =>
    intro i s lg s' lg' C a hi h hG hQ
    have hlt : i < ops.size := by omega
    have ho : ops[i]? = some ops[i] := by simp [hlt]
    have ho' : ops.toList[i]? = some ops[i] := by simp [hlt]
    obtain ⟨k, g, e1, e2⟩ := hget i _ ho'
    rw [Nat.zero_add] at e2
    have ea := aget i _ k g ho' e1
    have hd : (aosOf ps 0 ops.toList l).drop i = ⟨ops[i].dst, k, g, ps.any fun p => p.1 == 0 + i || p.2 == 0 + i⟩ :: (aosOf ps 0 ops.toList l).drop (i + 1) := by
      have hl2 : i < (aosOf ps 0 ops.toList l).length := by rw [alen]; simpa using hlt
      rw [List.drop_eq_getElem_cons hl2]
      congr 1
      rw [List.getElem?_eq_getElem hl2] at ea
      exact Option.some.inj ea
    rw [hd] at h
    simp only [runOps] at h
    split at h
    · cases h
    · rename_i out hout
      rw [List.range'_succ, wpOps_cons]
      refine wpOp_good hS ho e2 hG hout fun a' C' hG' => ?_
      refine ih (i + 1) _ _ _ _ C' a' (by omega) h ?_ hQ
      have eg : gE (putE s.env ops[i].dst out.1) = fun t => if ops[i].dst = some t then out.1 else gE s.env t := by
        funext t; exact gE_putE _ _ _ _
      simp only [eg, gO_pOs]
      exact hG'

theorem countP_lt_of {α : Type} {p q : α → Bool} (h : ∀ x, q x = true → p x = true) : ∀ {l : List α} {x : α}, x ∈ l → p x = true → q x = false → l.countP q < l.countP p
  | y :: r, x, hx, hp, hq => by
    have hle : r.countP q ≤ r.countP p := by
      clear hx
      induction r with
      | nil => simp
      | cons z r ih =>
        simp only [List.countP_cons]
        have := h z
        cases hz : q z <;> cases hz' : p z <;> simp_all <;> omega
    simp only [List.countP_cons]
    cases hx with
    | head => simp [hp, hq]; omega
    | tail _ hx =>
      have := countP_lt_of h hx hp hq
      have := h y
      cases hz : q y <;> cases hz' : p y <;> simp_all <;> omega

theorem meets_mem {a b : List Id} {x : Id} (ha : x ∈ a) (hb : x ∈ b) : meets a b = true := by
  simp only [meets, List.any_eq_true]
  exact ⟨x, ha, by simpa using hb⟩

theorem aoE_quiet {o : AO} {g : Nat → AVal} {ρ : Look} {out : Out} (h : aoE K o g ρ = some out) (hk : o.k.kind ≠ 2) : out.2 = [] := by
  unfold aoE at h
  split at h
  · exact opE_quiet K _ h hk
  · split at h
    · split at h
      · exact opE_quiet K _ h hk
      · cases h; rfl
    · cases h; rfl
    · cases h

theorem aoE_frame {o : AO} {g g' : Nat → AVal} {ρ ρ' : Look} {out : Out} (h : aoE K o g ρ = some out) (hs : ∀ t ∈ o.seen, g' t = g t) (hρ : o.k.kind ≠ 0 → ∀ i, i ∈ touch o.k g ρ ∨ i ∈ out.2.map (·.1) → ρ' i = ρ i) : aoE K o g' ρ' = some out := by
  have hop : opE K (o.dst.getD 0) o.k g ρ = some out → opE K (o.dst.getD 0) o.k g' ρ' = some out := by
    intro h
    rw [opE_slots K _ ρ' (fun t ht => hs t (List.mem_append.2 (.inl ht)))]
    by_cases hk : o.k.kind = 0
    · rw [opE_blind K _ hk]; exact h
    · exact opE_objs K _ h (hρ hk)
  unfold aoE at h ⊢
  cases hg : o.guard with
  | none => rw [hg] at h; exact hop h
  | some tw =>
    obtain ⟨t, want⟩ := tw
    rw [hg] at h
    simp only at h ⊢
    rw [hs t (by simp [AO.seen, hg])]
    split at h
    · rename_i b hb
      split at h
      · rename_i hbw
        rw [if_pos hbw]
        exact hop h
      · rename_i hbw
        rw [if_neg hbw]
        exact h
    · exact h
    · cases h

theorem edgesOk_spec : ∀ {r : List Oper} {i : Nat}, edgesOk i r = true → ∀ j o, r[j]? = some o → ∀ e ∈ edges o, e < i + j
  | [], i, h, j, o, ho => by simp at ho
  | o :: r, i, h, j, o', ho => by
    simp only [edgesOk, Bool.and_eq_true, List.all_eq_true, decide_eq_true_eq] at h
    cases j with
    | zero =>
      simp at ho
      subst ho
      simpa using h.1
    | succ j =>
      simp at ho
      have := edgesOk_spec h.2 j o' ho
      intro e he
      have := this e he
      omega

/-- what the compiler has checked of a region that is drawn, and what its run in the order of the text has shown -/
structure Drawn (K : Orc) (P : Program) (n : Nat) (ms : List (Nat × Mk)) (ops : Array Oper) (aos : List AO) (outs : List Out) (g0 : Nat → AVal) (ρ0 : Look) : Prop where
  len : aos.length = ops.size
  ao : ∀ i o, ops[i]? = some o → ∃ k gd lg, aos[i]? = some ⟨o.dst, k, gd, lg⟩ ∧ cOper P n ms ops.toList i o = some (k, gd)
  run : ∀ j o, aos[j]? = some o → aoE K o (gM aos outs every g0 j) (rM outs every ρ0 j) = some (outAt outs j)
  edge : ∀ i o, ops[i]? = some o → ∀ e ∈ edges o, e < i
  slot : ∀ i j, i < j → j < ops.size → ((befs ops.toList []).getD j 0).testBit i = true ∨ ∀ a b, aos[i]? = some a → aos[j]? = some b → slotClash a b = false
  objs : ∀ i j, i < j → j < ops.size → ((befs ops.toList []).getD j 0).testBit i = true ∨ ∀ a b, aos[i]? = some a → aos[j]? = some b →
    ((a.k.kind = 2 → b.k.kind = 0) ∧ (b.k.kind = 2 → a.k.kind = 0)) ∨
    (∀ x, (x ∈ touch a.k (gM aos outs every g0 i) (rM outs every ρ0 i) ∨ x ∈ keysAt outs i) → x ∈ keysAt outs j → False) ∧
    (∀ x, (x ∈ touch b.k (gM aos outs every g0 j) (rM outs every ρ0 j) ∨ x ∈ keysAt outs j) → x ∈ keysAt outs i → False)

section
variable {ms : List (Nat × Mk)} {ops : Array Oper} {aos : List AO} {outs : List Out} {g0 : Nat → AVal} {ρ0 : Look} {D : Nat → Bool}

theorem Drawn.dst (H : Drawn K P n ms ops aos outs g0 ρ0) {i : Nat} {o : Oper} (ho : ops[i]? = some o) : dstAt aos i = o.dst := by
  obtain ⟨k, gd, lg, h, _⟩ := H.ao i o ho
  simp [dstAt, h]

theorem Drawn.before (H : Drawn K P n ms ops aos outs g0 ρ0) (hD : ∀ i o, ops[i]? = some o → D i = true → ∀ e ∈ edges o, D e = true) {i : Nat} {o : Oper} (ho : ops[i]? = some o) (he : ∀ e ∈ edges o, D e = true) {j : Nat}
    (hj : ((befs ops.toList []).getD i 0).testBit j = true) : D j = true :=
  befs_closed (ops := ops.toList) (D := D) (fun i o h => hD i o (by simpa using h)) i o (by simpa using ho) he j hj

/-- an unlisted operation that is ready sees the slots that it saw in the order of the text -/
theorem Drawn.sees (H : Drawn K P n ms ops aos outs g0 ρ0) (hD : ∀ i o, ops[i]? = some o → D i = true → ∀ e ∈ edges o, D e = true) {i : Nat} {o : Oper} (ho : ops[i]? = some o) (he : ∀ e ∈ edges o, D e = true) (hi : D i = false)
    {a : AO} (ha : aos[i]? = some a) {t : Nat} (ht : t ∈ a.seen) : gM aos outs D g0 ops.size t = gM aos outs every g0 i t := by
  have hlt : i < ops.size := (Array.getElem?_eq_some_iff.1 ho).1
  refine gM_agree (fun k hk hd => ?_) ops.size (Nat.le_of_lt hlt) fun k hk hk' hd => ?_
  · rcases H.slot k i hk hlt with h | h
    · exact H.before hD ho he h
    · obtain ⟨b, hb⟩ : ∃ b, aos[k]? = some b := ⟨aos[k]'(by rw [H.len]; omega), by simp⟩
      have := h b a hb ha
      simp only [dstAt, hb, Option.bind_some] at hd
      simp [slotClash, hd] at this
      exact absurd ht this.1.1
  · by_cases e : k = i
    · subst e; exact hi
    · rcases H.slot i k (by omega) hk' with h | h
      · cases hDk : D k with
        | false => rfl
        | true =>
          have hok : ops[k]? = some ops[k] := by simp [hk']
          have := H.before hD hok (hD k _ hok hDk) h
          rw [hi] at this
          cases this
      · obtain ⟨b, hb⟩ : ∃ b, aos[k]? = some b := ⟨aos[k]'(by rw [H.len]; omega), by simp⟩
        have := h a b ha hb
        simp only [dstAt, hb, Option.bind_some] at hd
        simp [slotClash, hd] at this
        exact absurd ht this.2

theorem Drawn.quiet (H : Drawn K P n ms ops aos outs g0 ρ0) {k : Nat} {b : AO} (hb : aos[k]? = some b) (hk : b.k.kind ≠ 2) : keysAt outs k = [] := by
  have := aoE_quiet (H.run k b hb) hk
  simp [keysAt, this]

/-- and the objects -/
theorem Drawn.meets (H : Drawn K P n ms ops aos outs g0 ρ0) (hD : ∀ i o, ops[i]? = some o → D i = true → ∀ e ∈ edges o, D e = true) {i : Nat} {o : Oper} (ho : ops[i]? = some o) (he : ∀ e ∈ edges o, D e = true) (hi : D i = false)
    {a : AO} (ha : aos[i]? = some a) {x : Id} (hk0 : a.k.kind ≠ 0) (hx : x ∈ touch a.k (gM aos outs every g0 i) (rM outs every ρ0 i) ∨ x ∈ keysAt outs i) :
    (∀ k, k < i → x ∈ keysAt outs k → D k = true) ∧ (∀ k, i ≤ k → k < ops.size → x ∈ keysAt outs k → D k = false) := by
  have hlt : i < ops.size := (Array.getElem?_eq_some_iff.1 ho).1
  refine ⟨fun k hk hd => ?_, fun k hk hk' hd => ?_⟩
  · rcases H.objs k i hk hlt with h | h
    · exact H.before hD ho he h
    · obtain ⟨b, hb⟩ : ∃ b, aos[k]? = some b := ⟨aos[k]'(by rw [H.len]; omega), by simp⟩
      rcases h b a hb ha with h | h
      · by_cases hb2 : b.k.kind = 2
        · exact absurd (h.1 hb2) hk0
        · rw [H.quiet hb hb2] at hd; cases hd
      · exact (h.2 x hx hd).elim
  · by_cases e : k = i
    · subst e; exact hi
    · rcases H.objs i k (by omega) hk' with h | h
      · cases hDk : D k with
        | false => rfl
        | true =>
          have hok : ops[k]? = some ops[k] := by simp [hk']
          have := H.before hD hok (hD k _ hok hDk) h
          rw [hi] at this
          cases this
      · obtain ⟨b, hb⟩ : ∃ b, aos[k]? = some b := ⟨aos[k]'(by rw [H.len]; omega), by simp⟩
        rcases h a b ha hb with h | h
        · by_cases hb2 : b.k.kind = 2
          · exact absurd (h.2 hb2) hk0
          · rw [H.quiet hb hb2] at hd; cases hd
        · exact (h.1 x hx hd).elim

theorem Drawn.answers (H : Drawn K P n ms ops aos outs g0 ρ0) (hD : ∀ i o, ops[i]? = some o → D i = true → ∀ e ∈ edges o, D e = true) {i : Nat} {o : Oper} (ho : ops[i]? = some o) (he : ∀ e ∈ edges o, D e = true) (hi : D i = false)
    {a : AO} (ha : aos[i]? = some a) : aoE K a (gM aos outs D g0 ops.size) (rM outs D ρ0 ops.size) = some (outAt outs i) := by
  have hlt : i < ops.size := (Array.getElem?_eq_some_iff.1 ho).1
  refine aoE_frame (H.run i a ha) (fun t ht => H.sees hD ho he hi ha ht) fun hk x hx => ?_
  obtain ⟨h1, h2⟩ := H.meets hD ho he hi ha hk hx
  exact rM_agree h1 ops.size (Nat.le_of_lt hlt) h2

theorem Drawn.adds (H : Drawn K P n ms ops aos outs g0 ρ0) (hD : ∀ i o, ops[i]? = some o → D i = true → ∀ e ∈ edges o, D e = true) {i : Nat} {o : Oper} (ho : ops[i]? = some o) (he : ∀ e ∈ edges o, D e = true) (hi : D i = false) :
    gM aos outs (addD D i) g0 ops.size = (fun t => if o.dst = some t then (outAt outs i).1 else gM aos outs D g0 ops.size t) ∧ rM outs (addD D i) ρ0 ops.size = updL (rM outs D ρ0 ops.size) (outAt outs i).2 := by
  have hlt : i < ops.size := (Array.getElem?_eq_some_iff.1 ho).1
  obtain ⟨k0, gd, lg, ha, hc⟩ := H.ao i o ho
  refine ⟨?_, ?_⟩
  · funext t
    rw [gM_add hi t ops.size hlt, H.dst ho]
    intro k hk hk' hdi hdk
    rcases H.slot i k hk hk' with h | h
    · cases hDk : D k with
      | false => rfl
      | true =>
        have hok : ops[k]? = some ops[k] := by simp [hk']
        have := H.before hD hok (hD k _ hok hDk) h
        rw [hi] at this
        cases this
    · obtain ⟨b, hb⟩ : ∃ b, aos[k]? = some b := ⟨aos[k]'(by rw [H.len]; omega), by simp⟩
      have := h _ b ha hb
      rw [H.dst ho] at hdi
      simp only [dstAt, hb, Option.bind_some] at hdk
      simp [slotClash, hdi, hdk] at this
  · funext x
    refine rM_add hi x ops.size hlt fun k hk hk' hxi hxk => ?_
    have hk0 : k0.kind ≠ 0 := by
      intro h0
      have := H.quiet ha (by simp [h0])
      rw [this] at hxi
      cases hxi
    exact (H.meets hD ho he hi ha hk0 (.inr hxi)).2 k (Nat.le_of_lt hk) hk' hxk

theorem mem_edges {o : Oper} {e : Nat} : e ∈ edges o ↔ ∃ x ∈ o.after, Region.binds .any x = true ∧ x.on = e := by
  unfold edges
  simp only [List.mem_filterMap, Array.mem_toList_iff]
  constructor
  · rintro ⟨x, h1, h2⟩
    split at h2
    · rename_i hb
      exact ⟨x, h1, hb, by simpa using h2⟩
    · cases h2
  · rintro ⟨x, h1, h2, h3⟩
    exact ⟨x, h1, by rw [if_pos h2, h3]⟩

/-- every order -/
theorem any_sound (hS : SoundK P K) (H : Drawn K P n ms ops aos outs g0 ρ0) {Q : Exit → Act → World → Prop} (hQ : ∀ a' C', GoodF B C0 C' n (gM aos outs every g0 ops.size) (rM outs every ρ0 ops.size) a' → Q .normal a' C'.w) :
    ∀ (fuel : Nat) (listed : Array Bool) (a : Act) (C : Ctx), listed.size = ops.size →
      (∀ i o, ops[i]? = some o → listed.getD i false = true → ∀ e ∈ edges o, listed.getD e false = true) →
      GoodF B C0 C n (gM aos outs (fun i => listed.getD i false) g0 ops.size) (rM outs (fun i => listed.getD i false) ρ0 ops.size) a →
      (List.range ops.size).countP (fun i => !listed.getD i false) ≤ fuel → wpAny P .any ops Q fuel listed a C.w := by
  intro fuel
  have tf : ∀ (listed : Array Bool) (i : Nat), listed.size = ops.size → i < ops.size → listed.getD i true = listed.getD i false := by
    intro listed i hs hi
    have : i < listed.size := by omega
    simp [Array.getD, this]
  have done : ∀ (listed : Array Bool) (a : Act) (C : Ctx), listed.size = ops.size → Region.ready .any ops listed = [] →
      GoodF B C0 C n (gM aos outs (fun i => listed.getD i false) g0 ops.size) (rM outs (fun i => listed.getD i false) ρ0 ops.size) a → Q .normal a C.w := by
    intro listed a C hs hr hG
    have all : ∀ i, i < ops.size → listed.getD i false = true := by
      intro i
      induction i using Nat.strongRecOn with
      | _ i ih =>
        intro hi
        cases hf : listed.getD i false with
        | true => rfl
        | false =>
          have : i ∈ Region.ready .any ops listed := by
            rw [mem_ready]
            have hok : ops[i]? = some ops[i] := by simp [hi]
            refine ⟨by rw [tf listed i hs hi, hf], ops[i], hok, fun e he hb => ?_⟩
            have := H.edge i _ hok e.on (mem_edges.2 ⟨e, he, hb, rfl⟩)
            exact ih e.on this (by omega)
          rw [hr] at this
          cases this
    have e1 : gM aos outs (fun i => listed.getD i false) g0 ops.size = gM aos outs every g0 ops.size := by
      funext t
      exact gM_agree (fun k hk _ => all k hk) ops.size (Nat.le_refl _) (fun k h1 h2 _ => by omega)
    have e2 : rM outs (fun i => listed.getD i false) ρ0 ops.size = rM outs every ρ0 ops.size := by
      funext t
      exact rM_agree (fun k hk _ => all k hk) ops.size (Nat.le_refl _) (fun k h1 h2 _ => by omega)
    rw [e1, e2] at hG
    exact hQ a C hG
  induction fuel with
  | zero =>
    intro listed a C hs hD hG hc
    have hr : Region.ready .any ops listed = [] := by
      rw [List.eq_nil_iff_forall_not_mem]
      intro j hj
      obtain ⟨h0, o, ho, _⟩ := mem_ready.1 hj
      have hlt : j < ops.size := (Array.getElem?_eq_some_iff.1 ho).1
      rw [tf listed j hs hlt] at h0
      have : 0 < (List.range ops.size).countP (fun i => !listed.getD i false) := by
        rw [List.countP_pos_iff]
        exact ⟨j, by simpa using hlt, by simp only [h0, Bool.not_false]⟩
      omega
    exact ⟨hr, done listed a C hs hr hG⟩
  | succ fuel ih =>
    intro listed a C hs hD hG hc
    refine ⟨fun hr => done listed a C hs hr hG, fun i hi => ?_⟩
    obtain ⟨h0, o, ho, hall⟩ := mem_ready.1 hi
    have hlt : i < ops.size := (Array.getElem?_eq_some_iff.1 ho).1
    rw [tf listed i hs hlt] at h0
    have he : ∀ e ∈ edges o, listed.getD e false = true := by
      intro e hee
      obtain ⟨x, h1, h2, rfl⟩ := mem_edges.1 hee
      exact hall x h1 h2
    obtain ⟨k, gd, lg, ha, hco⟩ := H.ao i o ho
    have hans := H.answers (D := fun i => listed.getD i false) hD ho he h0 ha
    obtain ⟨ag, ar⟩ := H.adds (D := fun i => listed.getD i false) hD ho he h0
    refine wpOp_good hS ho hco hG hans fun a' C' hG' => ?_
    rw [← ag, ← ar] at hG'
    have hset : addD (fun i => listed.getD i false) i = fun j => (listed.setIfInBounds i true).getD j false := by
      funext j
      by_cases e : j = i
      · subst e
        have : j < listed.size := by omega
        simp [addD, this]
      · have := getD_set_ne (listed := listed) (i := i) (j := j) false (fun x => e x.symm)
        rw [this]
        simp [addD, e]
    rw [hset] at hG'
    refine ih (listed.setIfInBounds i true) a' C' (by simpa using hs) ?_ hG' ?_
    · intro j o' ho' hj e hee
      refine getD_set_true ?_
      by_cases hji : j = i
      · subst hji
        rw [ho] at ho'
        cases ho'
        exact he e hee
      · rw [getD_set_ne false (fun x => hji x.symm)] at hj
        exact hD j o' ho' hj e hee
    · have := countP_lt_of (p := fun j => !listed.getD j false) (q := fun j => !(listed.setIfInBounds i true).getD j false) (l := List.range ops.size) (x := i)
        (fun j hj => by
          cases hl : listed.getD j false with
          | false => rfl
          | true =>
            have := getD_set_true (i := i) hl
            simp only [this] at hj
            cases hj) (by simpa using hlt) (by simp only [h0, Bool.not_false]) (by
          have : i < listed.size := by omega
          simp [this])
      omega

end
end
end Go.Am
