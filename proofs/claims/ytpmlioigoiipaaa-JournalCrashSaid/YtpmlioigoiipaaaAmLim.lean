/- The abstract machine: a call is what the body says, once the calls in it are. -/
import Derived.Test.YtpmlioigoiipaaaAmFun
set_option linter.unusedVariables false
set_option linter.unusedSimpArgs false
namespace Go.Am

/-- what K answers, K' answers too -/
def OrcLe (K K' : Orc) : Prop := ∀ f args os r, K f args os = some r → K' f args os = some r

/-- an operation asks at most once -/
theorem opE_orc {K : Orc} {site : Nat} {k : AK} {g : Nat → AVal} {ρ : Look} {out : Out} (h : opE K site k g ρ = some out) :
    (∀ K', opE K' site k g ρ = some out) ∨ ∃ f args os r, K f args os = some r ∧ ∀ K' : Orc, K' f args os = some r → opE K' site k g ρ = some out := by
  cases k with
  | call f args scalar =>
    right
    have h0 := h
    simp only [opE] at h
    split at h
    · cases h
    · rename_i vs fs hvs
      split at h
      · cases h
      · rename_i order hcol
        split at h
        · cases h
        · rename_i os hos
          split at h
          · cases h
          · rename_i hany
            split at h
            · cases h
            · rename_i v os' hK
              refine ⟨f, _, _, (v, os'), hK, fun K' hK' => ?_⟩
              simp only [opE, hvs, hcol, hos]
              rw [if_neg hany, hK']
              exact h
  | _ => exact .inl fun K' => h

/-- a growing row of oracles, and its limit -/
structure Row (R : Nat → Orc) (K : Orc) : Prop where
  mono : ∀ n m, n ≤ m → OrcLe (R n) (R m)
  lim : ∀ f args os r, K f args os = some r → ∃ n, R n f args os = some r

theorem aoE_mono {K K' : Orc} (hk : OrcLe K K') {o : AO} {g : Nat → AVal} {ρ : Look} {out : Out} (h : aoE K o g ρ = some out) : aoE K' o g ρ = some out := by
  have hop : ∀ {site k}, opE K site k g ρ = some out → opE K' site k g ρ = some out := by
    intro site k h
    rcases opE_orc h with h' | ⟨f, args, os, r, h1, h2⟩
    · exact h' K'
    · exact h2 K' (hk _ _ _ _ h1)
  unfold aoE at h ⊢
  split at h
  · exact hop h
  · split at h
    · split at h
      · rename_i hb
        rw [if_pos hb]
        exact hop h
      · rename_i hb
        rw [if_neg hb]
        exact h
    · exact h
    · cases h

theorem aoE_lim {R : Nat → Orc} {K : Orc} (hR : Row R K) {o : AO} {g : Nat → AVal} {ρ : Look} {out : Out} (h : aoE K o g ρ = some out) : ∃ n, aoE (R n) o g ρ = some out := by
  have hop : ∀ {site k}, opE K site k g ρ = some out → ∃ n, opE (R n) site k g ρ = some out := by
    intro site k h
    rcases opE_orc h with h' | ⟨f, args, os, r, h1, h2⟩
    · exact ⟨0, h' _⟩
    · obtain ⟨n, hn⟩ := hR.lim _ _ _ _ h1
      exact ⟨n, h2 _ hn⟩
  unfold aoE at h ⊢
  split at h
  · exact hop h
  · split at h
    · split at h
      · rename_i hb
        simp only [if_pos hb]
        exact hop h
      · rename_i hb
        simp only [if_neg hb]
        exact ⟨0, h⟩
    · exact ⟨0, h⟩
    · cases h

theorem runOps_mono {K K' : Orc} (hk : OrcLe K K') : ∀ {l : List AO} {i : Nat} {s : St} {lg : Log} {r : St × Log}, runOps K i l s lg = some r → runOps K' i l s lg = some r
  | [], i, s, lg, r, h => h
  | o :: l, i, s, lg, r, h => by
    simp only [runOps] at h ⊢
    split at h
    · cases h
    · rename_i out ho
      rw [aoE_mono hk ho]
      exact runOps_mono hk h

theorem runOps_lim {R : Nat → Orc} {K : Orc} (hR : Row R K) : ∀ {l : List AO} {i : Nat} {s : St} {lg : Log} {r : St × Log}, runOps K i l s lg = some r → ∃ n, runOps (R n) i l s lg = some r
  | [], i, s, lg, r, h => ⟨0, h⟩
  | o :: l, i, s, lg, r, h => by
    simp only [runOps] at h ⊢
    split at h
    · cases h
    · rename_i out ho
      obtain ⟨n1, h1⟩ := aoE_lim hR ho
      obtain ⟨n2, h2⟩ := runOps_lim hR h
      refine ⟨max n1 n2, ?_⟩
      rw [aoE_mono (hR.mono n1 (max n1 n2) (Nat.le_max_left _ _)) h1]
      exact runOps_mono (hR.mono n2 (max n1 n2) (Nat.le_max_right _ _)) h2

theorem runReg_mono {K K' : Orc} (hk : OrcLe K K') {r : AReg} {s s' : St} (h : runReg K r s = some s') : runReg K' r s = some s' := by
  unfold runReg at h ⊢
  split at h
  · cases h
  · split at h
    · cases h
    · rename_i s1 lg hr
      rw [runOps_mono hk hr]
      exact h

theorem runReg_lim {R : Nat → Orc} {K : Orc} (hR : Row R K) {r : AReg} {s s' : St} (h : runReg K r s = some s') : ∃ n, runReg (R n) r s = some s' := by
  unfold runReg at h ⊢
  split at h
  · cases h
  · split at h
    · cases h
    · rename_i s1 lg hr
      obtain ⟨n, hn⟩ := runOps_lim hR hr
      exact ⟨n, by simp only [hn]; exact h⟩

theorem iter_succ {body : St → Option (AEx × St)} : ∀ {n : Nat} {s : St} {r : AEx × St}, iter body n s = some r → iter body (n + 1) s = some r
  | 0, s, r, h => by simp [iter] at h
  | n + 1, s, r, h => by
    rw [iter] at h ⊢
    split at h
    · cases h
    · exact iter_succ h
    · exact h

theorem iter_le {body : St → Option (AEx × St)} {n m : Nat} (h : n ≤ m) {s : St} {r : AEx × St} (hr : iter body n s = some r) : iter body m s = some r := by
  induction h with
  | refl => exact hr
  | step _ ih => exact iter_succ ih

theorem loopLim_iff {body : St → Option (AEx × St)} {s : St} {r : AEx × St} : loopLim body s = some r ↔ ∃ n, iter body n s = some r := by
  constructor
  · intro h
    unfold loopLim at h
    split at h
    · rename_i hex
      have := Classical.choose_spec hex
      simp only [Option.some.injEq] at h
      rw [h] at this
      exact this
    · cases h
  · rintro ⟨n, hn⟩
    unfold loopLim
    have hex : ∃ r, ∃ n, iter body n s = some r := ⟨r, n, hn⟩
    rw [dif_pos hex]
    obtain ⟨m, hm⟩ := Classical.choose_spec hex
    have h1 := iter_le (Nat.le_max_left n m) hn
    have h2 := iter_le (Nat.le_max_right n m) hm
    rw [h1] at h2
    exact h2.symm

theorem iter_mono {b b' : St → Option (AEx × St)} (hb : ∀ s r, b s = some r → b' s = some r) : ∀ {n : Nat} {s : St} {r : AEx × St}, iter b n s = some r → iter b' n s = some r
  | 0, s, r, h => by simp [iter] at h
  | n + 1, s, r, h => by
    simp only [iter] at h ⊢
    split at h
    · cases h
    · rename_i s' h1
      rw [hb _ _ h1]
      exact iter_mono hb h
    · rename_i p hne h1
      rw [hb _ _ h1]
      simp only [Option.some.injEq] at h
      rw [← h]
      obtain ⟨x, s'⟩ := p
      cases x with
      | normal => exact (hne s' rfl).elim
      | exit id => rfl
      | ret => rfl

theorem exec_mono {K K' : Orc} (hk : OrcLe K K') : ∀ {c : AC} {s : St} {r : AEx × St}, exec K c s = some r → exec K' c s = some r := by
  intro c
  induction c with
  | skip => intro s r h; exact h
  | reg rg =>
    intro s r h
    simp only [exec] at h ⊢
    split at h
    · rename_i s1 h1
      rw [runReg_mono hk h1]
      exact h
    · cases h
  | seq a b iha ihb =>
    intro s r h
    simp only [exec] at h ⊢
    split at h
    · rename_i s1 h1
      rw [iha h1]
      exact ihb h
    · rename_i hne
      rw [iha h]
      obtain ⟨x, s'⟩ := r
      cases x with
      | normal => exact absurd h (hne s')
      | exit id => rfl
      | ret => rfl
  | cond x a b iha ihb =>
    intro s r h
    simp only [exec] at h ⊢
    split at h
    · rename_i t ht
      cases t with
      | true => exact iha h
      | false => exact ihb h
    · cases h
  | block id c ih =>
    intro s r h
    simp only [exec] at h ⊢
    split at h
    · rename_i id' s1 h1
      rw [ih h1]
      exact h
    · rename_i hne
      rw [ih h]
      obtain ⟨x, s'⟩ := r
      cases x with
      | normal => rfl
      | exit id' => exact absurd h (hne id' s')
      | ret => rfl
  | loop c ih =>
    intro s r h
    simp only [exec] at h ⊢
    rw [loopLim_iff] at h ⊢
    obtain ⟨n, hn⟩ := h
    exact ⟨n, iter_mono (fun s r h => ih h) hn⟩
  | exit id => intro s r h; exact h
  | ret => intro s r h; exact h

theorem exec_lim {R : Nat → Orc} {K : Orc} (hR : Row R K) : ∀ {c : AC} {s : St} {r : AEx × St}, exec K c s = some r → ∃ n, exec (R n) c s = some r := by
  intro c
  induction c with
  | skip => intro s r h; exact ⟨0, h⟩
  | reg rg =>
    intro s r h
    simp only [exec] at h ⊢
    split at h
    · rename_i s1 h1
      obtain ⟨n, hn⟩ := runReg_lim hR h1
      exact ⟨n, by rw [hn]; exact h⟩
    · cases h
  | seq a b iha ihb =>
    intro s r h
    simp only [exec] at h ⊢
    split at h
    · rename_i s1 h1
      obtain ⟨n1, e1⟩ := iha h1
      obtain ⟨n2, e2⟩ := ihb h
      refine ⟨max n1 n2, ?_⟩
      rw [exec_mono (hR.mono n1 (max n1 n2) (Nat.le_max_left _ _)) e1]
      exact exec_mono (hR.mono n2 (max n1 n2) (Nat.le_max_right _ _)) e2
    · rename_i hne
      obtain ⟨n1, e1⟩ := iha h
      refine ⟨n1, ?_⟩
      rw [e1]
      obtain ⟨x, s'⟩ := r
      cases x with
      | normal => exact absurd h (hne s')
      | exit id => rfl
      | ret => rfl
  | cond x a b iha ihb =>
    intro s r h
    simp only [exec] at h ⊢
    split at h
    · rename_i t ht
      cases t with
      | true => exact iha h
      | false => exact ihb h
    · cases h
  | block id c ih =>
    intro s r h
    simp only [exec] at h ⊢
    split at h
    · rename_i id' s1 h1
      obtain ⟨n1, e1⟩ := ih h1
      exact ⟨n1, by rw [e1]; exact h⟩
    · rename_i hne
      obtain ⟨n1, e1⟩ := ih h
      refine ⟨n1, ?_⟩
      rw [e1]
      obtain ⟨x, s'⟩ := r
      cases x with
      | normal => rfl
      | exit id' => exact absurd h (hne id' s')
      | ret => rfl
  | loop c ih =>
    intro s r h
    simp only [exec] at h
    rw [loopLim_iff] at h
    obtain ⟨n, hn⟩ := h
    have : ∃ m, iter (exec (R m) c) n s = some r := by
      induction n generalizing s r with
      | zero => simp [iter] at hn
      | succ n ihn =>
        simp only [iter] at hn ⊢
        split at hn
        · cases hn
        · rename_i s' h1
          obtain ⟨m1, e1⟩ := ih h1
          obtain ⟨m2, e2⟩ := ihn hn
          refine ⟨max m1 m2, ?_⟩
          rw [exec_mono (hR.mono m1 (max m1 m2) (Nat.le_max_left _ _)) e1]
          exact iter_mono (fun s r h => exec_mono (hR.mono m2 (max m1 m2) (Nat.le_max_right _ _)) h) e2
        · rename_i p hne h1
          obtain ⟨m1, e1⟩ := ih h1
          refine ⟨m1, ?_⟩
          rw [e1]
          simp only [Option.some.injEq] at hn
          rw [← hn]
          obtain ⟨x, s'⟩ := p
          cases x with
          | normal => exact (hne s' rfl).elim
          | exit id => rfl
          | ret => rfl
    obtain ⟨m, hm⟩ := this
    exact ⟨m, by simp only [exec]; exact loopLim_iff.2 ⟨n, hm⟩⟩
  | exit id => intro s r h; exact ⟨0, h⟩
  | ret => intro s r h; exact ⟨0, h⟩

theorem runFun_mono {K K' : Orc} (hk : OrcLe K K') {fn : AFun} {args : List AVal} {os : List Obj} {r : AVal × List Obj} (h : runFun K fn args os = some r) : runFun K' fn args os = some r := by
  unfold runFun at h ⊢
  split at h
  · rename_i hl
    rw [if_pos hl]
    split at h
    · rename_i s hs
      rw [exec_mono hk hs]
      exact h
    · rename_i s hs
      rw [exec_mono hk hs]
      exact h
    · cases h
  · cases h

theorem runFun_lim {R : Nat → Orc} {K : Orc} (hR : Row R K) {fn : AFun} {args : List AVal} {os : List Obj} {r : AVal × List Obj} (h : runFun K fn args os = some r) : ∃ n, runFun (R n) fn args os = some r := by
  unfold runFun at h ⊢
  split at h
  · rename_i hl
    simp only [if_pos hl]
    split at h
    · rename_i s hs
      obtain ⟨n, hn⟩ := exec_lim hR hs
      exact ⟨n, by rw [hn]; exact h⟩
    · rename_i s hs
      obtain ⟨n, hn⟩ := exec_lim hR hs
      exact ⟨n, by rw [hn]; exact h⟩
    · cases h
  · cases h

theorem runS_mono {K K' : Orc} (hk : OrcLe K K') {fn : AFun} {args : List AVal} {os : List Obj} {r : AVal × List Obj} (h : runS K fn args os = some r) : runS K' fn args os = some r := by
  unfold runS at h ⊢
  split at h
  · exact runFun_mono hk h
  · split at h
    · split at h
      · rename_i r1 r2 h1 h2
        rw [runFun_mono hk h1, runFun_mono hk h2]
        exact h
      · cases h
    · exact runFun_mono hk h

theorem runS_lim {R : Nat → Orc} {K : Orc} (hR : Row R K) {fn : AFun} {args : List AVal} {os : List Obj} {r : AVal × List Obj} (h : runS K fn args os = some r) : ∃ n, runS (R n) fn args os = some r := by
  unfold runS at h ⊢
  split at h
  · exact runFun_lim hR h
  · split at h
    · split at h
      · rename_i r1 r2 h1 h2
        obtain ⟨n1, e1⟩ := runFun_lim hR h1
        obtain ⟨n2, e2⟩ := runFun_lim hR h2
        refine ⟨max n1 n2, ?_⟩
        rw [runFun_mono (hR.mono n1 (max n1 n2) (Nat.le_max_left _ _)) e1, runFun_mono (hR.mono n2 (max n1 n2) (Nat.le_max_right _ _)) e2]
        exact h
      · cases h
    · exact runFun_lim hR h

section
variable {tbl : FuncId → Option AFun}

theorem kn_succ : ∀ n, OrcLe (Kn tbl n) (Kn tbl (n + 1))
  | 0 => fun f args os r h => by simp [Kn] at h
  | n + 1 => fun f args os r h => by
    rw [Kn] at h ⊢
    simp only at h ⊢
    split at h
    · exact runS_mono (kn_succ n) h
    · cases h

theorem kn_le {n m : Nat} (h : n ≤ m) : OrcLe (Kn tbl n) (Kn tbl m) := by
  induction h with
  | refl => exact fun _ _ _ _ h => h
  | step _ ih => exact fun f args os r h => kn_succ _ f args os r (ih f args os r h)

theorem callT_iff {f : FuncId} {args : List AVal} {os : List Obj} {r : AVal × List Obj} : callT tbl f args os = some r ↔ ∃ n, Kn tbl n f args os = some r := by
  constructor
  · intro h
    unfold callT at h
    split at h
    · rename_i hex
      have := Classical.choose_spec hex
      simp only [Option.some.injEq] at h
      rw [h] at this
      exact this
    · cases h
  · rintro ⟨n, hn⟩
    unfold callT
    have hex : ∃ r, ∃ n, Kn tbl n f args os = some r := ⟨r, n, hn⟩
    rw [dif_pos hex]
    obtain ⟨m, hm⟩ := Classical.choose_spec hex
    have h1 := kn_le (Nat.le_max_left n m) _ _ _ _ hn
    have h2 := kn_le (Nat.le_max_right n m) _ _ _ _ hm
    rw [h1] at h2
    exact h2.symm

theorem row_kn : Row (Kn tbl) (callT tbl) := ⟨fun _ _ h => kn_le h, fun _ _ _ _ h => callT_iff.1 h⟩

/-- A CALL IS WHAT THE BODY SAYS. -/
theorem callT_of {f : FuncId} {fn : AFun} (hf : tbl f = some fn) {args : List AVal} {os : List Obj} {r : AVal × List Obj} (h : runS (callT tbl) fn args os = some r) : callT tbl f args os = some r := by
  obtain ⟨n, hn⟩ := runS_lim row_kn h
  exact callT_iff.2 ⟨n + 1, by rw [Kn]; simp only [hf]; exact hn⟩

/-- A LOOP: an invariant that is kept while the measure falls, and what holds at the way out. -/
theorem loop_of {body : St → Option (AEx × St)} {α : Type} (st : α → St) (next : α → Option α) (out : α → AEx × St) (μ : α → Nat) (I : α → Prop)
    (step : ∀ x y, I x → next x = some y → body (st x) = some (.normal, st y) ∧ I y ∧ μ y < μ x) (stop : ∀ x, I x → next x = none → body (st x) = some (out x) ∧ (out x).1 ≠ .normal)
    {fin : α → α} (hfin : ∀ x, fin x = match next x with | some y => fin y | none => x) :
    ∀ x, I x → loopLim body (st x) = some (out (fin x)) := by
  have key : ∀ n x, μ x = n → I x → ∃ m, iter body m (st x) = some (out (fin x)) := by
    intro n
    induction n using Nat.strongRecOn with
    | _ n ih =>
      intro x hn hI
      rw [hfin x]
      cases hx : next x with
      | none =>
        obtain ⟨h1, h2⟩ := stop x hI hx
        refine ⟨1, ?_⟩
        simp only [iter, h1]
        generalize ho : out x = o at h2
        obtain ⟨e, s⟩ := o
        cases e with
        | normal => exact absurd rfl h2
        | exit id => rfl
        | ret => rfl
      | some y =>
        obtain ⟨h1, h2, h3⟩ := step x y hI hx
        obtain ⟨m, hm⟩ := ih (μ y) (by omega) y rfl h2
        exact ⟨m + 1, by simp only [iter, h1]; exact hm⟩
  intro x hI
  obtain ⟨m, hm⟩ := key _ x rfl hI
  exact loopLim_iff.2 ⟨m, hm⟩

/-- a round of a loop, and its end -/
theorem loop_next {body : St → Option (AEx × St)} {s s' : St} {r : AEx × St} (h : body s = some (.normal, s')) (hr : loopLim body s' = some r) : loopLim body s = some r := by
  rw [loopLim_iff] at hr ⊢
  obtain ⟨n, hn⟩ := hr
  exact ⟨n + 1, by simp only [iter, h]; exact hn⟩

theorem loop_done {body : St → Option (AEx × St)} {s s' : St} {x : AEx} (h : body s = some (x, s')) (hx : x ≠ .normal) : loopLim body s = some (x, s') := by
  rw [loopLim_iff]
  refine ⟨1, ?_⟩
  simp only [iter, h]
  cases x with
  | normal => exact absurd rfl hx
  | exit id => rfl
  | ret => rfl

end
end Go.Am
