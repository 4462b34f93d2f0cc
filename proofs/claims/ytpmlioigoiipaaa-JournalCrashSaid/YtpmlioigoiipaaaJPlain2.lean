/- Plain laws: what a disk records, and what is left of it when only some sectors arrive. -/
import Derived.Test.YtpmlioigoiipaaaJPlain
import Derived.Test.YtpmlioigoiipaaaJW16
set_option linter.unusedVariables false
set_option linter.unusedSimpArgs false
namespace Go.Am

theorem setAll_get : ∀ (W : List (List UInt8)) (du : List (List UInt8)) (a i : Nat), a + W.length ≤ du.length → (setAll du a W)[i]? = if a ≤ i ∧ i < a + W.length then W[i - a]? else du[i]?
  | [], du, a, i, h => by
    rw [setAll, if_neg]
    simp
    try omega
  | s :: r, du, a, i, h => by
    rw [List.length_cons] at h
    rw [setAll, setAll_get r (du.set a s) (a + 1) i (by rw [List.length_set]; omega)]
    by_cases h1 : a + 1 ≤ i ∧ i < a + 1 + r.length
    · rw [if_pos h1, if_pos (by rw [List.length_cons]; omega), show i - a = (i - (a + 1)) + 1 from by omega, List.getElem?_cons_succ]
    · rw [if_neg h1]
      by_cases h2 : i = a
      · subst h2
        rw [if_pos (by rw [List.length_cons]; omega), Nat.sub_self, List.getElem?_set_self (by omega)]
        rfl
      · rw [if_neg (by rw [List.length_cons]; omega), List.getElem?_set_ne (fun h => h2 h.symm)]

theorem slice_eq {α : Type} {l l' : List α} {a k : Nat} (h : ∀ i, a ≤ i → i < a + k → l[i]? = l'[i]?) : (l.drop a).take k = (l'.drop a).take k := by
  apply List.ext_getElem?
  intro i
  rw [List.getElem?_take, List.getElem?_take]
  split
  · rw [List.getElem?_drop, List.getElem?_drop]
    exact h _ (by omega) (by omega)
  · rfl

theorem getD_of {α : Type} {l l' : List α} {a : Nat} {d : α} (h : l[a]? = l'[a]?) : l.getD a d = l'.getD a d := by
  rw [List.getD_eq_getElem?_getD, List.getD_eq_getElem?_getD, h]

theorem recB_congr {all all' : List (List UInt8)} {a n : Nat} (hl : all.length = all'.length) (h0 : all[a]? = all'[a]?) (h : ∀ i, a ≤ i → i < a + recB.num2 (all.getD a []) → all[i]? = all'[i]?) : recB all a n = recB all' a n := by
  unfold recB
  rw [hl, getD_of h0]
  rw [getD_of h0] at h
  rw [slice_eq h]

theorem recB_k {all : List (List UInt8)} {a n : Nat} {p : List UInt8} {k : Nat} (h : recB all a n = some (p, k)) : k = recB.num2 (all.getD a []) ∧ num4 (all.getD a []) ≠ 0 := by
  unfold recB at h
  split at h
  · cases h
  · split at h
    · cases h
    · rename_i h1
      split at h
      · cases h
      · split at h
        · cases h
          exact ⟨rfl, fun h0 => h1 (.inl h0)⟩
        · cases h

/-- what a record's sectors are -/
theorem recB_sec {all : List (List UInt8)} {a n : Nat} {p : List UInt8} {k : Nat} (h : recB all a n = some (p, k)) {j : Nat} (hj : j < k) :
    (imageB p n (num4 (all.getD a []))).length = k ∧ all[a + j]? = some (secB (num4 (all.getD a [])) n j k (sealB p)) := by
  obtain ⟨h1, h2, h3, h4⟩ := recB_some h
  have hl : (imageB p n (num4 (all.getD a []))).length = k := by rw [h4, List.length_take, List.length_drop]; omega
  refine ⟨hl, ?_⟩
  have hg := imageB_get p n (num4 (all.getD a [])) j (by omega)
  rw [hl, h4, List.getElem?_take, if_pos hj, List.getElem?_drop] at hg
  exact hg

theorem recB_written {all : List (List UInt8)} {a n ep : Nat} {b : List UInt8} (h : (all.drop a).take (imageB b n ep).length = imageB b n ep) (hfit : a + (imageB b n ep).length ≤ all.length) (hN : all.length ≤ 4096) (hep : 1 ≤ ep) (hep2 : ep < 4294967296) (hb : b.length < 1000000000) :
    recB all a n = some (b, (imageB b n ep).length) := by
  have hpos : 0 < (imageB b n ep).length := by
    rw [imageB_len]
    unfold cntB
    have : 4 ≤ (sealB b).length := by simp [sealB, sumB]; omega
    omega
  have h0 : all[a]? = some (secB ep n 0 (imageB b n ep).length (sealB b)) := by
    have := imageB_get b n ep 0 hpos
    have h2 : ((all.drop a).take (imageB b n ep).length)[0]? = all[a]? := by rw [List.getElem?_take, if_pos hpos, List.getElem?_drop]; rfl
    rw [← h2, h]
    exact this
  have hg : all.getD a [] = secB ep n 0 (imageB b n ep).length (sealB b) := by rw [List.getD_eq_getElem?_getD, h0]; rfl
  have e1 : num4 (all.getD a []) = ep := by rw [hg, secB_ep hep2]
  have e2 : recB.num2 (all.getD a []) = (imageB b n ep).length := by rw [hg, secB_cnt (by omega)]
  obtain ⟨r, hr⟩ := pay_image b n ep
  unfold recB
  rw [e1, e2, h, hr, fopB_seal b r hb, if_neg (by omega), if_neg (by omega), if_neg (by simp), if_pos rfl]

def Chain (all : List (List UInt8)) : Nat → Nat → List (List UInt8) → Nat → Prop
  | a, _, [], e => a = e
  | a, n, p :: rs, e => ∃ k, recB all a n = some (p, k) ∧ Chain all (a + k) (n + 1) rs e

theorem chain_le {all : List (List UInt8)} : ∀ {rs : List (List UInt8)} {a n e : Nat}, Chain all a n rs e → a + rs.length ≤ e
  | [], a, n, e, h => by simp only [Chain] at h; simp; omega
  | p :: rs, a, n, e, ⟨k, h1, h2⟩ => by
    have := chain_le h2
    have := recB_some h1
    simp only [List.length_cons]
    omega

theorem chain_mono {all all' : List (List UInt8)} (hl : all.length = all'.length) : ∀ {rs : List (List UInt8)} {a n e : Nat}, (∀ i, i < e → all[i]? = all'[i]?) → Chain all a n rs e → Chain all' a n rs e
  | [], a, n, e, _, h => h
  | p :: rs, a, n, e, he, ⟨k, h1, h2⟩ => by
    have hle := chain_le h2
    have hs := recB_some h1
    obtain ⟨hk, _⟩ := recB_k h1
    refine ⟨k, ?_, chain_mono hl he h2⟩
    rw [← h1]
    refine (recB_congr hl (he a (by omega)) fun i hi hi2 => he i ?_).symm
    rw [← hk] at hi2
    omega

theorem chain_snoc {all : List (List UInt8)} {p : List UInt8} {k : Nat} : ∀ {rs : List (List UInt8)} {a n e : Nat}, Chain all a n rs e → recB all e (n + rs.length) = some (p, k) → Chain all a n (rs ++ [p]) (e + k)
  | [], a, n, e, h, hr => by
    simp only [Chain] at h
    subst h
    exact ⟨k, hr, rfl⟩
  | q :: rs, a, n, e, ⟨k', h1, h2⟩, hr => by
    refine ⟨k', h1, chain_snoc h2 ?_⟩
    rw [List.length_cons] at hr
    rw [show n + 1 + rs.length = n + (rs.length + 1) from by omega]
    exact hr

theorem scan_chain {all : List (List UInt8)} : ∀ {rs : List (List UInt8)} {f a n e : Nat}, Chain all a n rs e → recB all e (n + rs.length) = none → all.length + 1 ≤ f + a → a ≤ all.length → scanB f all a n = (rs, e)
  | [], f, a, n, e, h, hr, hf, ha => by
    simp only [Chain] at h
    subst h
    obtain ⟨f, rfl⟩ : ∃ g, f = g + 1 := ⟨f - 1, by omega⟩
    rw [scanB]
    rw [show n + ([] : List (List UInt8)).length = n from rfl] at hr
    rw [hr]
  | q :: rs, f, a, n, e, ⟨k', h1, h2⟩, hr, hf, ha => by
    have hs := recB_some h1
    obtain ⟨f, rfl⟩ : ∃ g, f = g + 1 := ⟨f - 1, by omega⟩
    rw [scanB, h1]
    rw [List.length_cons] at hr
    have := scan_chain (f := f) h2 (by rw [show n + 1 + rs.length = n + (rs.length + 1) from by omega]; exact hr) (by omega) (by omega)
    dsimp only
    rw [this]

structure JInv (all rs : List (List UInt8)) (e m : Nat) : Prop where
  len : ∀ d ∈ all, d.length = 64
  ch : Chain all 0 0 rs e
  le : e ≤ all.length
  ep : ∀ d ∈ all, num4 d ≤ m
  no : ∀ d ∈ all, num4 d = 0 ∨ num4 (d.drop 4) ≤ rs.length
  stop : recB all e rs.length = none

theorem JInv.scan {all rs : List (List UInt8)} {e m : Nat} (h : JInv all rs e m) : scanB (all.length + 1) all 0 0 = (rs, e) :=
  scan_chain h.ch (by rw [Nat.zero_add]; exact h.stop) (by omega) (by omega)

theorem mostB_le : ∀ (l : List (List UInt8)) (k m : Nat), k ≤ m → (∀ d ∈ l, num4 d ≤ m) → mostB l k ≤ m
  | [], k, m, hk, _ => hk
  | d :: l, k, m, hk, h => by
    have := h d (by simp)
    exact mostB_le l _ m (by split <;> omega) fun x hx => h x (by simp [hx])

theorem mostB_ge : ∀ (l : List (List UInt8)) (k : Nat), k ≤ mostB l k ∧ ∀ d ∈ l, num4 d ≤ mostB l k
  | [], k => ⟨Nat.le_refl _, by simp⟩
  | d :: l, k => by
    obtain ⟨h1, h2⟩ := mostB_ge l (if k < num4 d then num4 d else k)
    rw [mostB]
    have h3 : k ≤ (if k < num4 d then num4 d else k) ∧ num4 d ≤ (if k < num4 d then num4 d else k) := by split <;> omega
    refine ⟨by omega, fun x hx => ?_⟩
    rcases List.mem_cons.1 hx with rfl | hx
    · omega
    · exact h2 x hx

/-- the epochs are below the next one -/
theorem JInv.most {all rs : List (List UInt8)} {e m : Nat} (h : JInv all rs e m) : mostB all 0 ≤ m ∧ JInv all rs e (mostB all 0) :=
  ⟨mostB_le _ _ _ (by omega) h.ep, h.len, h.ch, h.le, (mostB_ge all 0).2, h.no, h.stop⟩

theorem zero_num (n : Nat) : ∀ d ∈ List.replicate n zeroS, num4 d = 0 := by
  intro d hd
  rw [List.eq_of_mem_replicate hd]
  rfl

theorem inv_zero (n : Nat) : JInv (List.replicate n zeroS) [] 0 0 := by
  refine ⟨fun d hd => by rw [List.eq_of_mem_replicate hd]; rfl, rfl, by omega, fun d hd => by rw [zero_num n d hd]; omega, fun d hd => .inl (zero_num n d hd), ?_⟩
  unfold recB
  split
  · rfl
  · rename_i h
    have hz : num4 ((List.replicate n zeroS).getD 0 []) = 0 := by
      rw [List.getD_eq_getElem?_getD, List.getElem?_replicate, if_pos (by simp at h; omega)]
      rfl
    rw [if_pos (.inl hz)]

section
variable {all rs : List (List UInt8)} {e m ep : Nat} {b : List UInt8}

theorem mem_get {l : List (List UInt8)} {d : List UInt8} (h : d ∈ l) : ∃ i : Nat, l[i]? = some d := List.getElem?_of_mem h

theorem inv_write (h : JInv all rs e m) (hep : m < ep) (hep2 : ep < 4294967296) (hfit : e + (imageB b rs.length ep).length ≤ all.length) (hN : all.length ≤ 4096) (hrs : rs.length < 1000000) (hb : b.length < 1000000000) :
    JInv (setAll all e (imageB b rs.length ep)) (rs ++ [b]) (e + (imageB b rs.length ep).length) ep := by
  have hget := fun i => setAll_get (imageB b rs.length ep) all e i hfit
  have hlen := setAll_len (imageB b rs.length ep) all e
  have himg := imageB_get b rs.length ep
  have h64 := imageB_64 b rs.length ep
  have hslice : ((setAll all e (imageB b rs.length ep)).drop e).take (imageB b rs.length ep).length = imageB b rs.length ep := by
    apply List.ext_getElem?
    intro i
    rw [List.getElem?_take]
    split
    · rw [List.getElem?_drop, hget, if_pos (by omega), Nat.add_sub_cancel_left]
    · rw [List.getElem?_eq_none (by omega)]
  have hrec : recB (setAll all e (imageB b rs.length ep)) e rs.length = some (b, (imageB b rs.length ep).length) := recB_written hslice (by omega) (by omega) (by omega) hep2 hb
  have hsec : ∀ d ∈ setAll all e (imageB b rs.length ep), d ∈ all ∨ ∃ j, j < (imageB b rs.length ep).length ∧ d = secB ep rs.length j (imageB b rs.length ep).length (sealB b) := by
    intro d hd
    obtain ⟨i, hi⟩ := mem_get hd
    rw [hget] at hi
    split at hi
    · rename_i hc
      rw [himg _ (by omega)] at hi
      exact .inr ⟨i - e, by omega, (Option.some.inj hi).symm⟩
    · exact .inl (List.mem_of_getElem? hi)
  refine ⟨fun d hd => ?_, ?_, by omega, fun d hd => ?_, fun d hd => ?_, ?_⟩
  · rcases hsec d hd with hd | ⟨j, _, rfl⟩
    · exact h.len d hd
    · exact secB_64 ..
  · refine chain_snoc (chain_mono hlen.symm (fun i hi => ?_) h.ch) (by rw [Nat.zero_add]; exact hrec)
    rw [hget, if_neg (by omega)]
  · rcases hsec d hd with hd | ⟨j, _, rfl⟩
    · have := h.ep d hd; omega
    · rw [secB_ep hep2]; omega
  · rw [List.length_append, List.length_singleton]
    rcases hsec d hd with hd | ⟨j, _, rfl⟩
    · rcases h.no d hd with h0 | h0
      · exact .inl h0
      · exact .inr (by omega)
    · exact .inr (by rw [secB_no (by omega)]; omega)
  · rw [List.length_append, List.length_singleton]
    cases hr : recB (setAll all e (imageB b rs.length ep)) (e + (imageB b rs.length ep).length) (rs.length + 1) with
    | none => rfl
    | some pk =>
      exfalso
      obtain ⟨p, k⟩ := pk
      obtain ⟨r1, r2, r3, r4⟩ := recB_some hr
      obtain ⟨_, hz⟩ := recB_k hr
      obtain ⟨_, h0⟩ := recB_sec hr (j := 0) (by omega)
      have h1 := h0
      rw [Nat.add_zero, hget, if_neg (by omega)] at h1
      have hm := List.mem_of_getElem? h1
      have hlt := num4_lt ((setAll all e (imageB b rs.length ep)).getD (e + (imageB b rs.length ep).length) [])
      rcases h.no _ hm with hh | hh
      · rw [secB_ep hlt] at hh
        exact hz hh
      · rw [secB_no (by omega)] at hh
        omega

theorem inv_mix (h : JInv all rs e m) (hep : m < ep) (hep2 : ep < 4294967296) (hfit : e + (imageB b rs.length ep).length ≤ all.length) (hN : all.length ≤ 4096) (hrs : rs.length < 1000000)
    {mix : List (List UInt8)} (hl : mix.length = all.length) (hmix : ∀ i : Nat, mix[i]? = all[i]? ∨ mix[i]? = (setAll all e (imageB b rs.length ep))[i]?) (hne : mix ≠ setAll all e (imageB b rs.length ep)) : JInv mix rs e ep := by
  have hget := fun i => setAll_get (imageB b rs.length ep) all e i hfit
  have hlen := setAll_len (imageB b rs.length ep) all e
  have himg := imageB_get b rs.length ep
  have hsec : ∀ (i : Nat) (d : List UInt8), mix[i]? = some d → all[i]? = some d ∨ (e ≤ i ∧ i < e + (imageB b rs.length ep).length ∧ d = secB ep rs.length (i - e) (imageB b rs.length ep).length (sealB b)) := by
    intro i d hd
    rcases hmix i with hi | hi
    · rw [hi] at hd; exact .inl hd
    · rw [hi, hget] at hd
      split at hd
      · rename_i hc
        rw [himg _ (by omega)] at hd
        exact .inr ⟨hc.1, hc.2, (Option.some.inj hd).symm⟩
      · exact .inl hd
  refine ⟨fun d hd => ?_, ?_, by rw [hl]; exact h.le, fun d hd => ?_, fun d hd => ?_, ?_⟩
  · obtain ⟨i, hi⟩ := mem_get hd
    rcases hsec i d hi with hi | ⟨_, _, rfl⟩
    · exact h.len d (List.mem_of_getElem? hi)
    · exact secB_64 ..
  · refine chain_mono hl.symm (fun i hi => ?_) h.ch
    rcases hmix i with hi' | hi'
    · exact hi'.symm
    · rw [hi', hget, if_neg (by omega)]
  · obtain ⟨i, hi⟩ := mem_get hd
    rcases hsec i d hi with hi | ⟨_, _, rfl⟩
    · have := h.ep d (List.mem_of_getElem? hi); omega
    · rw [secB_ep hep2]; omega
  · obtain ⟨i, hi⟩ := mem_get hd
    rcases hsec i d hi with hi | ⟨_, _, rfl⟩
    · exact h.no d (List.mem_of_getElem? hi)
    · exact .inr (by rw [secB_no (by omega)]; omega)
  · cases hr : recB mix e rs.length with
    | none => rfl
    | some pk =>
      exfalso
      obtain ⟨p, k⟩ := pk
      obtain ⟨r1, r2, r3, r4⟩ := recB_some hr
      obtain ⟨hk, hz⟩ := recB_k hr
      have hlt := num4_lt (mix.getD e [])
      obtain ⟨_, h0⟩ := recB_sec hr (j := 0) (by omega)
      have hs := fun j (hj : j < k) => (recB_sec hr hj).2
      generalize hep' : num4 (mix.getD e []) = ep' at *
      rcases hsec _ _ h0 with hold | ⟨_, _, hnew⟩
      · -- its first sector is an old one: so are all
        have hep3 : ep' ≤ m := by
          have := h.ep _ (List.mem_of_getElem? hold)
          rwa [secB_ep hlt] at this
        have hall : ∀ i, e ≤ i → i < e + k → mix[i]? = all[i]? := by
          intro i hi1 hi2
          have h1 := hs (i - e) (by omega)
          rw [show e + (i - e) = i from by omega] at h1
          rcases hsec _ _ h1 with h2 | ⟨_, _, h2⟩
          · rw [h1, h2]
          · have := congrArg num4 h2
            rw [secB_ep hlt, secB_ep hep2] at this
            omega
        have : recB mix e rs.length = recB all e rs.length := recB_congr hl (hall e (by omega) (by omega)) fun i hi1 hi2 => hall i hi1 (by rw [← hk] at hi2; exact hi2)
        rw [hr, h.stop] at this
        cases this
      · -- its first sector is a new one: so are all
        have hep3 : ep' = ep := by
          have := congrArg num4 hnew
          rwa [secB_ep hlt, secB_ep hep2] at this
        have hkk : k = (imageB b rs.length ep).length := by
          have h1 : mix.getD e [] = secB ep' rs.length 0 k (sealB p) := by
            rw [Nat.add_zero] at h0
            rw [List.getD_eq_getElem?_getD, h0]; rfl
          have h2 := congrArg recB.num2 hnew
          rw [secB_cnt (by omega), secB_cnt (by omega)] at h2
          exact h2
        apply hne
        apply List.ext_getElem?
        intro i
        rcases hmix i with hi | hi
        · rw [hget]
          split
          · rename_i hc
            have h1 := hs (i - e) (by omega)
            rw [show e + (i - e) = i from by omega] at h1
            rcases hsec _ _ h1 with h2 | ⟨_, _, h2⟩
            · exfalso
              have := h.ep _ (List.mem_of_getElem? h2)
              rw [secB_ep hlt] at this
              omega
            · rw [h1, h2, himg _ (by omega)]
          · exact hi
        · exact hi

/-- at least one sector has changed -/
theorem inv_changed (h : JInv all rs e m) (hep : m < ep) (hep2 : ep < 4294967296) (hfit : e + (imageB b rs.length ep).length ≤ all.length) : ∃ i : Nat, i < all.length ∧ all[i]? ≠ (setAll all e (imageB b rs.length ep))[i]? := by
  have hpos : 0 < (imageB b rs.length ep).length := by
    rw [imageB_len]
    unfold cntB
    have : 4 ≤ (sealB b).length := by simp [sealB, sumB]; omega
    omega
  refine ⟨e, by omega, fun h0 => ?_⟩
  rw [setAll_get _ _ _ _ hfit, if_pos (by omega), Nat.sub_self, imageB_get _ _ _ _ hpos] at h0
  have := h.ep _ (List.mem_of_getElem? h0)
  rw [secB_ep hep2] at this
  omega
end
end Go.Am
