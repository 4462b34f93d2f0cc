/- The abstract machine: operations in any order that the edges allow come to the same answers as in the order of the text, when the unordered ones do not meet. -/
import Derived.Test.YtpmlioigoiipaaaAmFrame2
import Derived.Test.YtpmlioigoiipaaaAmCode
set_option linter.unusedVariables false
set_option linter.unusedSimpArgs false
namespace Go.Am

def dstAt (aos : List AO) (k : Nat) : Option Nat := (aos[k]?).bind (·.dst)
def outAt (outs : List Out) (k : Nat) : Out := (outs[k]?).getD (.undef, [])

def gM (aos : List AO) (outs : List Out) (D : Nat → Bool) (g0 : Nat → AVal) : Nat → Nat → AVal
  | 0 => g0
  | k + 1 => fun t => if D k = true ∧ dstAt aos k = some t then (outAt outs k).1 else gM aos outs D g0 k t

def rM (outs : List Out) (D : Nat → Bool) (ρ0 : Look) : Nat → Look
  | 0 => ρ0
  | k + 1 => if D k = true then updL (rM outs D ρ0 k) (outAt outs k).2 else rM outs D ρ0 k

def keysAt (outs : List Out) (k : Nat) : List Id := (outAt outs k).2.map (·.1)

abbrev every : Nat → Bool := fun _ => true

theorem updL_not : ∀ {upd : List (Id × Obj)} {ρ : Look} {x : Id}, x ∉ upd.map (·.1) → updL ρ upd x = ρ x
  | [], ρ, x, _ => rfl
  | (i, o) :: r, ρ, x, h => by
    simp only [List.map_cons, List.mem_cons, not_or] at h
    rw [updL, updL_not h.2, if_neg (fun e => h.1 e.symm)]

theorem updL_at : ∀ {upd : List (Id × Obj)} {ρ ρ' : Look} {x : Id}, (x ∈ upd.map (·.1) ∨ ρ x = ρ' x) → updL ρ upd x = updL ρ' upd x
  | [], ρ, ρ', x, h => by simpa [updL] using h
  | (i, o) :: r, ρ, ρ', x, h => by
    simp only [updL]
    refine updL_at ?_
    by_cases e : i = x
    · exact .inr (by simp [e])
    · simp only [List.map_cons, List.mem_cons] at h
      rcases h with (h | h) | h
      · exact absurd h.symm e
      · exact .inl h
      · exact .inr (by simp [e, h])

section
variable {aos : List AO} {outs : List Out} {D : Nat → Bool} {g0 : Nat → AVal} {ρ0 : Look}

theorem gM_agree {i t : Nat} (h1 : ∀ k, k < i → dstAt aos k = some t → D k = true) : ∀ (N : Nat), i ≤ N → (∀ k, i ≤ k → k < N → dstAt aos k = some t → D k = false) → gM aos outs D g0 N t = gM aos outs every g0 i t := by
  have low : ∀ n, n ≤ i → gM aos outs D g0 n t = gM aos outs every g0 n t := by
    intro n
    induction n with
    | zero => intro _; rfl
    | succ n ih =>
      intro hn
      simp only [gM, ih (by omega)]
      by_cases hd : dstAt aos n = some t
      · rw [if_pos ⟨h1 n (by omega) hd, hd⟩, if_pos ⟨trivial, hd⟩]
      · rw [if_neg (fun x => hd x.2), if_neg (fun x => hd x.2)]
  intro N hN
  induction N with
  | zero => intro _; have : i = 0 := by omega
            subst this; rfl
  | succ N ih =>
    intro h2
    by_cases e : i = N + 1
    · subst e; exact low _ (Nat.le_refl _)
    · simp only [gM]
      rw [if_neg (fun x => by rw [h2 N (by omega) (by omega) x.2] at x; exact absurd x.1 (by simp))]
      exact ih (by omega) fun k hk hk' => h2 k hk (by omega)

theorem rM_agree {i : Nat} {x : Id} (h1 : ∀ k, k < i → x ∈ keysAt outs k → D k = true) : ∀ (N : Nat), i ≤ N → (∀ k, i ≤ k → k < N → x ∈ keysAt outs k → D k = false) → rM outs D ρ0 N x = rM outs every ρ0 i x := by
  have low : ∀ n, n ≤ i → rM outs D ρ0 n x = rM outs every ρ0 n x := by
    intro n
    induction n with
    | zero => intro _; rfl
    | succ n ih =>
      intro hn
      simp only [rM, if_true]
      by_cases hd : x ∈ keysAt outs n
      · rw [if_pos (h1 n (by omega) hd)]
        exact updL_at (.inl hd)
      · rw [updL_not (upd := (outAt outs n).2) hd]
        split
        · rw [updL_not (upd := (outAt outs n).2) hd, ih (by omega)]
        · exact ih (by omega)
  intro N hN
  induction N with
  | zero => intro _; have : i = 0 := by omega
            subst this; rfl
  | succ N ih =>
    intro h2
    by_cases e : i = N + 1
    · subst e; exact low _ (Nat.le_refl _)
    · simp only [rM]
      have hr := ih (by omega) fun k hk hk' => h2 k hk (by omega)
      by_cases hd : x ∈ keysAt outs N
      · rw [h2 N (by omega) (by omega) hd]
        exact hr
      · split
        · rw [updL_not (upd := (outAt outs N).2) hd]; exact hr
        · exact hr

def addD (D : Nat → Bool) (i : Nat) : Nat → Bool := fun k => D k || k == i

theorem gM_add {i : Nat} (hD : D i = false) (t : Nat) : ∀ (N : Nat), i < N → (∀ k, i < k → k < N → dstAt aos i = some t → dstAt aos k = some t → D k = false) →
    gM aos outs (addD D i) g0 N t = if dstAt aos i = some t then (outAt outs i).1 else gM aos outs D g0 N t := by
  have low : ∀ n, n ≤ i → gM aos outs (addD D i) g0 n t = gM aos outs D g0 n t := by
    intro n
    induction n with
    | zero => intro _; rfl
    | succ n ih =>
      intro hn
      have hne : (n == i) = false := by simp; omega
      simp only [gM, ih (by omega), addD, hne, Bool.or_false]
  intro N
  induction N with
  | zero => intro h; omega
  | succ N ih =>
    intro hN hk
    by_cases e : N = i
    · subst e
      simp only [gM, addD, BEq.rfl, Bool.or_true, true_and, hD, Bool.false_eq_true, false_and, if_false]
      split
      · rfl
      · exact low _ (Nat.le_refl _)
    · have hne : (N == i) = false := by simp; omega
      simp only [gM, addD, hne, Bool.or_false]
      have hr := ih (by omega) fun k h1 h2 => hk k h1 (by omega)
      by_cases hd : dstAt aos i = some t
      · simp only [hd, if_true] at hr ⊢
        by_cases hN' : dstAt aos N = some t
        · rw [hk N (by omega) (by omega) hd hN']
          simpa using hr
        · rw [if_neg (fun x => hN' x.2)]
          exact hr
      · simp only [hd, if_false] at hr ⊢
        split
        · rfl
        · exact hr

theorem rM_add {i : Nat} (hD : D i = false) (x : Id) : ∀ (N : Nat), i < N → (∀ k, i < k → k < N → x ∈ keysAt outs i → x ∈ keysAt outs k → D k = false) →
    rM outs (addD D i) ρ0 N x = updL (rM outs D ρ0 N) (outAt outs i).2 x := by
  have low : ∀ n, n ≤ i → rM outs (addD D i) ρ0 n = rM outs D ρ0 n := by
    intro n
    induction n with
    | zero => intro _; rfl
    | succ n ih =>
      intro hn
      have hne : (n == i) = false := by simp; omega
      simp only [rM, ih (by omega), addD, hne, Bool.or_false]
  intro N
  induction N with
  | zero => intro h; omega
  | succ N ih =>
    intro hN hk
    by_cases e : N = i
    · subst e
      simp only [rM, addD, BEq.rfl, Bool.or_true, if_true, hD, Bool.false_eq_true, if_false]
      have := low N (Nat.le_refl _)
      rw [this]
    · have hne : (N == i) = false := by simp; omega
      simp only [rM]
      have hs : addD D i N = D N := by simp [addD, hne]
      rw [hs]
      have hr := ih (by omega) fun k h1 h2 => hk k h1 (by omega)
      by_cases hx : x ∈ keysAt outs i
      · have hup : ∀ ρ ρ' : Look, updL ρ (outAt outs i).2 x = updL ρ' (outAt outs i).2 x := fun _ _ => updL_at (.inl hx)
        by_cases hN' : x ∈ keysAt outs N
        · rw [hk N (by omega) (by omega) hx hN']
          simpa using hr
        · split
          · rw [updL_not (upd := (outAt outs N).2) hN', hr]
            exact hup _ _
          · exact hr
      · rw [updL_not (upd := (outAt outs i).2) hx] at hr ⊢
        split
        · exact updL_at (.inr hr)
        · exact hr

end

/-! ## The order of the text -/

section
variable {K : Orc}

theorem gM_cons (o : AO) (r : List AO) (out : Out) (outs : List Out) (g0 : Nat → AVal) : ∀ j, gM (o :: r) (out :: outs) every g0 (j + 1) = gM r outs every (fun t => if o.dst = some t then out.1 else g0 t) j
  | 0 => by
    funext t
    simp [gM, dstAt, outAt]
  | j + 1 => by
    funext t
    rw [gM, gM_cons o r out outs g0 j, gM]
    simp [dstAt, outAt]

theorem rM_cons (out : Out) (outs : List Out) (ρ0 : Look) : ∀ j, rM (out :: outs) every ρ0 (j + 1) = rM outs every (updL ρ0 out.2) j
  | 0 => by simp [rM, outAt]
  | j + 1 => by
    rw [rM, rM_cons out outs ρ0 j, rM]
    simp [outAt]

theorem logAt_append_left {l l' : Log} {i : Nat} (h : ∀ p ∈ l, p.1 ≠ i) : logAt (l ++ l') i = logAt l' i := by
  induction l with
  | nil => rfl
  | cons p r ih =>
    obtain ⟨j, a⟩ := p
    have hj : ¬ j = i := h (j, a) (by simp)
    simp only [List.cons_append, logAt, hj, if_false]
    exact ih fun p hp => h p (by simp [hp])

/-- what a run in the order of the text has done -/
theorem runOps_spec : ∀ (r : List AO) (i : Nat) (s : St) (lg : Log) (s' : St) (lg' : Log), runOps K i r s lg = some (s', lg') →
    ∃ (outs : List Out) (lgs : Log), outs.length = r.length ∧ lg' = lg ++ lgs ∧ (∀ p ∈ lgs, i ≤ p.1) ∧
      (∀ j o, r[j]? = some o → aoE K o (gM r outs every (gE s.env) j) (rM outs every (gO s.objs) j) = some (outAt outs j) ∧
        (o.lg = true → logAt lgs (i + j) = (touch o.k (gM r outs every (gE s.env) j) (rM outs every (gO s.objs) j), keysAt outs j))) ∧
      gE s'.env = gM r outs every (gE s.env) r.length ∧ gO s'.objs = rM outs every (gO s.objs) r.length
  | [], i, s, lg, s', lg', h => by
    simp only [runOps, Option.some.injEq, Prod.mk.injEq] at h
    obtain ⟨rfl, rfl⟩ := h
    exact ⟨[], [], rfl, by simp, by simp, by simp, rfl, rfl⟩
  | o :: r, i, s, lg, s', lg', h => by
    simp only [runOps] at h
    split at h
    · cases h
    · rename_i out ho
      obtain ⟨outs, lgs, h1, h2, h3, h4, h5, h6⟩ := runOps_spec r _ _ _ _ _ h
      have eg : gE (putE s.env o.dst out.1) = fun t => if o.dst = some t then out.1 else gE s.env t := by
        funext t; exact gE_putE _ _ _ _
      simp only [eg, gO_pOs] at h4 h5 h6
      refine ⟨out :: outs, logOf o i (gE s.env) (gO s.objs) out ++ lgs, by simp [h1], by rw [h2, List.append_assoc], ?_, ?_, ?_, ?_⟩
      · intro p hp
        rcases List.mem_append.1 hp with hp | hp
        · unfold logOf at hp
          split at hp
          · simp at hp; subst hp; exact Nat.le_refl _
          · cases hp
        · have := h3 p hp; omega
      · intro j o' hj
        cases j with
        | zero =>
          simp at hj
          subst hj
          refine ⟨by simpa [gM, rM, outAt] using ho, fun hl => ?_⟩
          simp [logOf, hl, logAt, gM, rM, keysAt, outAt]
        | succ j =>
          simp at hj
          obtain ⟨a1, a2⟩ := h4 j o' hj
          rw [gM_cons, rM_cons]
          refine ⟨by simpa [outAt] using a1, fun hl => ?_⟩
          rw [logAt_append_left, show i + (j + 1) = i + 1 + j by omega, a2 hl]
          · simp [keysAt, outAt]
          · intro p hp
            unfold logOf at hp
            split at hp
            · simp at hp; subst hp; simp
            · cases hp
      · rw [h5, List.length_cons, gM_cons]
      · rw [h6, List.length_cons, rM_cons]

end

/-! ## The bits -/

theorem maskOf_bit {acc : List Nat} : ∀ {l : List Nat} {j : Nat}, (maskOf acc l).testBit j = true → ∃ e ∈ l, j = e ∨ (acc.getD e 0).testBit j = true
  | [], j, h => by simp [maskOf] at h
  | e :: r, j, h => by
    simp only [maskOf, Nat.testBit_or, Bool.or_eq_true] at h
    rcases h with (h | h) | h
    · rw [Nat.testBit_two_pow] at h
      exact ⟨e, by simp, .inl (of_decide_eq_true h).symm⟩
    · exact ⟨e, by simp, .inr h⟩
    · obtain ⟨e', h1, h2⟩ := maskOf_bit h
      exact ⟨e', by simp [h1], h2⟩

theorem befs_spec : ∀ (ops : List Oper) (acc : List Nat), ∃ l, befs ops acc = acc ++ l ∧ l.length = ops.length ∧
    ∀ j o, ops[j]? = some o → (befs ops acc).getD (acc.length + j) 0 = maskOf ((befs ops acc).take (acc.length + j)) (edges o)
  | [], acc => ⟨[], by simp [befs], rfl, by simp⟩
  | o :: r, acc => by
    obtain ⟨l, h1, h2, h3⟩ := befs_spec r (acc ++ [maskOf acc (edges o)])
    simp only [befs]
    refine ⟨maskOf acc (edges o) :: l, by rw [h1]; simp, by simp [h2], fun j o' hj => ?_⟩
    cases j with
    | zero =>
      simp at hj
      subst hj
      rw [h1]
      simp
    | succ j =>
      simp at hj
      have := h3 j o' hj
      rw [show acc.length + (j + 1) = (acc ++ [maskOf acc (edges o)]).length + j by simp; omega]
      exact this

theorem befs_closed {ops : List Oper} {D : Nat → Bool} (hD : ∀ i o, ops[i]? = some o → D i = true → ∀ e ∈ edges o, D e = true) : ∀ (i : Nat) (o : Oper), ops[i]? = some o → (∀ e ∈ edges o, D e = true) →
    ∀ j, ((befs ops []).getD i 0).testBit j = true → D j = true := by
  intro i
  induction i using Nat.strongRecOn with
  | _ i ih =>
    intro o ho he j hj
    obtain ⟨l, h1, h2, h3⟩ := befs_spec ops []
    have h4 := h3 i o ho
    simp only [List.length_nil, Nat.zero_add] at h4
    rw [h4] at hj
    obtain ⟨e, he1, he2⟩ := maskOf_bit hj
    have hDe := he e he1
    rcases he2 with rfl | he2
    · exact hDe
    · by_cases hei : e < i
      · have hbe : ((befs ops []).take i).getD e 0 = (befs ops []).getD e 0 := by
          simp [List.getD_eq_getElem?_getD, List.getElem?_take, hei]
        rw [hbe] at he2
        have hlt : i < ops.length := (List.getElem?_eq_some_iff.1 ho).1
        have hoe : ops[e]? = some ops[e] := by simp
        exact ih e hei ops[e] hoe (hD e _ hoe hDe) j he2
      · have : ((befs ops []).take i).getD e 0 = 0 := by
          simp only [List.getD_eq_getElem?_getD, List.getElem?_take, hei, if_false]
          rfl
        rw [this] at he2
        simp at he2

theorem clashes_spec {aos : List AO} {bs : List Nat} : ∀ {n : Nat}, clashes aos bs n = false → ∀ i j, i < j → j < n → ((bs.getD j 0).testBit i = true) ∨ ∀ a b, aos[i]? = some a → aos[j]? = some b → slotClash a b = false
  | 0, _, i, j, _, h => by omega
  | n + 1, h, i, j, hij, hj => by
    simp only [clashes, Bool.or_eq_false_iff] at h
    by_cases e : j = n
    · subst e
      have := h.2
      rw [List.any_eq_false] at this
      have h' := this i (by simpa using hij)
      cases hb : (bs.getD j 0).testBit i with
      | true => exact .inl rfl
      | false =>
        right
        intro a b ha hb'
        simp only [hb, ha, hb', Bool.not_false, Bool.true_and, Bool.not_eq_true] at h'
        exact h'
    · exact clashes_spec h.1 i j hij (by omega)

theorem pairsOf_spec {ops : List Oper} {ks : List AK} {bs : List Nat} : ∀ {n : Nat} (i j : Nat), i < j → j < n → ((bs.getD j 0).testBit i = true) ∨ (i, j) ∈ pairsOf ops ks bs n ∨
    ∀ a b, ks[i]? = some a → ks[j]? = some b → (a.kind = 2 → b.kind = 0) ∧ (b.kind = 2 → a.kind = 0)
  | 0, i, j, _, h => by omega
  | n + 1, i, j, hij, hj => by
    by_cases e : j = n
    · subst e
      cases hb : (bs.getD j 0).testBit i with
      | true => exact .inl rfl
      | false =>
        right
        cases ha : ks[i]? with
        | none => exact .inr fun a b h _ => by cases h
        | some a =>
          cases hc : ks[j]? with
          | none => exact .inr fun a b _ h => by cases h
          | some b =>
            by_cases hq : ((a.kind == 2 && b.kind != 0) || (b.kind == 2 && a.kind != 0)) = true
            · left
              simp only [pairsOf, List.mem_append]
              right
              rw [List.mem_filterMap]
              refine ⟨i, by simpa using hij, ?_⟩
              simp only [hb, ha, hc, Bool.false_eq_true, if_false, hq, if_true]
            · right
              intro a' b' h1 h2
              cases h1
              cases h2
              simp at hq
              exact ⟨fun h => hq.1 h, fun h => hq.2 h⟩
    · rcases pairsOf_spec (ops := ops) (ks := ks) (bs := bs) (n := n) i j hij (by omega) with h | h | h
      · exact .inl h
      · exact .inr (.inl (by simp only [pairsOf, List.mem_append]; exact .inl h))
      · exact .inr (.inr h)

end Go.Am
