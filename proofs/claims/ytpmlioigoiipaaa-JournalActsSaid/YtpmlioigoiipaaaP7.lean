/- Parts of the proofs of the journal's statements, joined: JA1 JD7 JA2 JA3 JA4 JA5 JA6 JA7 JA8 JA9 JA10 JA11 JD8 JA12 AmRead AmLaw JLives JTops JActT. -/
import Derived.Test.YtpmlioigoiipaaaP6
import Derived.ChangeArms
import Derived.WideShapes
import Derived.WideKeyArgs
import Derived.JoinedOf
import Derived.OpenShut
import Derived.KernelRfl
import Derived.Test.YtpmlioigoiipaaaRows

/- Lists of journals: their objects, and how a loop's head names them. -/
set_option linter.unusedVariables false
set_option linter.unusedSimpArgs false
set_option maxRecDepth 10000
namespace Go.Am
open Go.Proofs

/-- a journal of both sides; r1 and r2 say whether its records lie in an array, and of which version -/
structure JJ where
  rs : List (List UInt8)
  next : Nat
  ep : Nat
  cr : Int
  op : Int
  r1 : Option Nat
  r2 : Option Nat

abbrev JL := List (Option JJ)

def recI (id : Id) (rs : List (List UInt8)) : Option Nat → AVal
  | none => .nils
  | some vr => .rsl id vr 1 0 rs.length
def recS (id : Id) (rs : List (List UInt8)) : Option Nat → Store
  | none => []
  | some vr => [(id, .arr 1 vr false (rs.map Bs))]
def bxG (d : Id) (k : IntKind) (rid : Id) (r : Option Nat) (j : JJ) : Obj := .box [.ref d 0, recI rid j.rs r, .dat (.int .i64 j.next), .dat (.int k j.ep), .dat (.int .i64 j.cr), .dat (.int .i64 j.op)]

def refsQ (f : Nat → Id) : Nat → JL → List AVal
  | _, [] => []
  | i, none :: l => .nilp :: refsQ f (i + 1) l
  | i, some _ :: l => .ref (f i) 0 :: refsQ f (i + 1) l
def nmR (id id' : Id) : Option Nat → List (Id × Id)
  | none => []
  | some _ => [(id, id')]
def nmQ (f g : Nat → Id) (r : JJ → Option Nat) (b : Nat) : Nat → JL → List (Id × Id)
  | _, [] => []
  | i, none :: l => nmQ f g r b (i + 1) l
  | i, some j :: l => (f i, (b, i)) :: (nmR (g i) (b + 1, i) (r j) ++ nmQ f g r b (i + 1) l)
def stQ (d : Id) (k : IntKind) (r : JJ → Option Nat) (b : Nat) : Nat → JL → Store
  | _, [] => []
  | i, none :: l => stQ d k r b (i + 1) l
  | i, some j :: l => ((b, i), bxG d k (b + 1, i) (r j) j) :: (recS (b + 1, i) j.rs (r j) ++ stQ d k r b (i + 1) l)

theorem getsucc {JS : JL} {x : Option JJ} {P : Nat → JJ → Prop} {i : Nat} (h : ∀ n j, (x :: JS)[n]? = some (some j) → P (i + n) j) : ∀ n j, JS[n]? = some (some j) → P (i + 1 + n) j := by
  intro n j hn
  have := h (n + 1) j (by simpa using hn)
  rwa [show i + (n + 1) = i + 1 + n from by omega] at this

theorem places_Q {ρ : Look} {f g : Nat → Id} {r : JJ → Option Nat} {b : Nat} {d : Id} {k : IntKind} {done : List Id} (hd : d ∈ done) :
    ∀ (JS : JL) (i : Nat), (∀ n j, JS[n]? = some (some j) → ρ (f (i + n)) = some (bxG d k (g (i + n)) (r j) j) ∧ (r j ≠ none → g (i + n) ∉ done)) → placesE ρ b done i (refsQ f i JS) = some (nmQ f g r b i JS)
  | [], i, _ => rfl
  | none :: l, i, h => by
    have ih := places_Q (b := b) hd l (i + 1) (getsucc (P := fun n j => ρ (f n) = some (bxG d k (g n) (r j) j) ∧ (r j ≠ none → g n ∉ done)) h)
    simp only [refsQ, placesE, ih, AVal.ids, nmQ]
  | some j :: l, i, h => by
    have ih := places_Q (b := b) hd l (i + 1) (getsucc (P := fun n j => ρ (f n) = some (bxG d k (g n) (r j) j) ∧ (r j ≠ none → g n ∉ done)) h)
    obtain ⟨h1, h2⟩ := h 0 j (by simp)
    rw [Nat.add_zero] at h1 h2
    simp only [refsQ, placesE, ih, AVal.ids, h1, nmQ]
    cases hr : r j with
    | none => simp [bxG, recI, Obj.ids, AVal.idsL, AVal.ids, hd, nmR]
    | some vr =>
      have := h2 (by simp [hr])
      simp [bxG, recI, Obj.ids, AVal.idsL, AVal.ids, hd, nmR, this]

theorem nmQ_snd {f g : Nat → Id} {r : JJ → Option Nat} {b : Nat} : ∀ (JS : JL) (i : Nat), ∀ x ∈ (nmQ f g r b i JS).map (·.2), (x.1 = b ∨ x.1 = b + 1) ∧ i ≤ x.2
  | [], i, x, h => by simp [nmQ] at h
  | none :: l, i, x, h => by
    have := nmQ_snd l (i + 1) x h
    exact ⟨this.1, by omega⟩
  | some j :: l, i, x, h => by
    simp only [nmQ, List.map_cons, List.map_append, List.mem_cons, List.mem_append] at h
    rcases h with rfl | h | h
    · exact ⟨.inl rfl, Nat.le_refl _⟩
    · cases hr : r j with
      | none => simp [hr, nmR] at h
      | some vr => simp [hr, nmR] at h; subst h; exact ⟨.inr rfl, Nat.le_refl _⟩
    · have := nmQ_snd l (i + 1) x h
      exact ⟨this.1, by omega⟩

theorem nmQ_nodup {f g : Nat → Id} {r : JJ → Option Nat} {b : Nat} : ∀ (JS : JL) (i : Nat), ((nmQ f g r b i JS).map (·.2)).Nodup
  | [], i => by simp [nmQ]
  | none :: l, i => nmQ_nodup l (i + 1)
  | some j :: l, i => by
    have ih := nmQ_nodup (f := f) (g := g) (r := r) (b := b) l (i + 1)
    have hs := nmQ_snd (f := f) (g := g) (r := r) (b := b) l (i + 1)
    have h1 : ∀ c, (c, i) ∉ (nmQ f g r b (i + 1) l).map (·.2) := fun c hc => by have := (hs _ hc).2; simp at this; omega
    simp only [nmQ, List.map_cons, List.map_append]
    cases hr : r j with
    | none => simp only [nmR, List.map_nil, List.nil_append, List.nodup_cons]; exact ⟨h1 b, ih⟩
    | some vr =>
      simp only [nmR, List.map_cons, List.map_nil, List.cons_append, List.nil_append, List.nodup_cons]
      refine ⟨?_, h1 (b + 1), ih⟩
      intro h
      rcases List.mem_cons.1 h with h | h
      · have := congrArg Prod.fst h
        simp at this
      · exact h1 b h

/-- the entries, one by one -/
theorem nmQ_mem {f g : Nat → Id} {r : JJ → Option Nat} {b : Nat} : ∀ (JS : JL) (i : Nat) (p : Id × Id), p ∈ nmQ f g r b i JS ↔ ∃ n j, JS[n]? = some (some j) ∧ (p = (f (i + n), (b, i + n)) ∨ (r j ≠ none ∧ p = (g (i + n), (b + 1, i + n))))
  | [], i, p => by simp [nmQ]
  | none :: l, i, p => by
    simp only [nmQ]
    rw [nmQ_mem l (i + 1) p]
    constructor
    · rintro ⟨n, j, h1, h2⟩
      exact ⟨n + 1, j, by simpa using h1, by rwa [show i + (n + 1) = i + 1 + n from by omega]⟩
    · rintro ⟨n, j, h1, h2⟩
      match n, h1, h2 with
      | n + 1, h1, h2 => exact ⟨n, j, by simpa using h1, by rwa [show i + (n + 1) = i + 1 + n from by omega] at h2⟩
  | some j0 :: l, i, p => by
    simp only [nmQ, List.mem_cons, List.mem_append]
    rw [nmQ_mem l (i + 1) p]
    constructor
    · rintro (rfl | h | ⟨n, j, h1, h2⟩)
      · exact ⟨0, j0, by simp, .inl rfl⟩
      · cases hr : r j0 with
        | none => simp [hr, nmR] at h
        | some vr => simp [hr, nmR] at h; subst h; exact ⟨0, j0, by simp, .inr ⟨by simp [hr], rfl⟩⟩
      · exact ⟨n + 1, j, by simpa using h1, by rwa [show i + (n + 1) = i + 1 + n from by omega]⟩
    · rintro ⟨n, j, h1, h2⟩
      match n, h1, h2 with
      | 0, h1, h2 =>
        simp at h1; subst h1
        rcases h2 with h2 | ⟨hr, h2⟩
        · exact .inl h2
        · right; left
          cases hr' : r j0 with
          | none => exact absurd hr' hr
          | some vr => simp [nmR, h2]
      | n + 1, h1, h2 => exact .inr (.inr ⟨n, j, by simpa using h1, by rwa [show i + (n + 1) = i + 1 + n from by omega] at h2⟩)

theorem refsQ_mem {f : Nat → Id} : ∀ (JS : JL) (i : Nat) (x : Id), x ∈ AVal.idsL (refsQ f i JS) → ∃ n j, JS[n]? = some (some j) ∧ x = f (i + n)
  | [], i, x, h => by simp [refsQ, AVal.idsL] at h
  | none :: l, i, x, h => by
    simp only [refsQ, AVal.idsL, AVal.ids, List.nil_append] at h
    obtain ⟨n, j, h1, h2⟩ := refsQ_mem l (i + 1) x h
    exact ⟨n + 1, j, by simpa using h1, by rwa [show i + (n + 1) = i + 1 + n from by omega]⟩
  | some j0 :: l, i, x, h => by
    simp only [refsQ, AVal.idsL, AVal.ids, List.mem_append, List.mem_singleton] at h
    rcases h with rfl | h
    · exact ⟨0, j0, by simp, rfl⟩
    · obtain ⟨n, j, h1, h2⟩ := refsQ_mem l (i + 1) x h
      exact ⟨n + 1, j, by simpa using h1, by rwa [show i + (n + 1) = i + 1 + n from by omega]⟩

theorem refsQ_ren {f : Nat → Id} {F : Id → Id} {b : Nat} : ∀ (JS : JL) (i : Nat), (∀ n j, JS[n]? = some (some j) → F (f (i + n)) = (b, i + n)) → AVal.renL F (refsQ f i JS) = refsQ (fun n => (b, n)) i JS
  | [], i, _ => rfl
  | none :: l, i, h => by
    simp only [refsQ, AVal.renL, AVal.ren]
    rw [refsQ_ren l (i + 1) (getsucc (P := fun n j => F (f n) = (b, n)) h)]
  | some j :: l, i, h => by
    have h1 := h 0 j (by simp)
    rw [Nat.add_zero] at h1
    simp only [refsQ, AVal.renL, AVal.ren, h1]
    rw [refsQ_ren l (i + 1) (getsucc (P := fun n j => F (f n) = (b, n)) h)]

theorem map_Q {ρ : Look} {f g : Nat → Id} {r : JJ → Option Nat} {b : Nat} {d : Id} {k : IntKind} {F : Id → Id} (hF : F d = d) : ∀ (JS : JL) (i : Nat),
    (∀ n j, JS[n]? = some (some j) → ρ (f (i + n)) = some (bxG d k (g (i + n)) (r j) j) ∧ ∀ w, r j = some w → ρ (g (i + n)) = some (.arr 1 w false (j.rs.map Bs)) ∧ F (g (i + n)) = (b + 1, i + n)) →
    (nmQ f g r b i JS).map (fun p => (p.2, ((ρ p.1).getD default).ren F)) = stQ d k r b i JS
  | [], i, _ => rfl
  | none :: l, i, h => map_Q hF l (i + 1) (getsucc (P := fun n j => ρ (f n) = some (bxG d k (g n) (r j) j) ∧ ∀ w, r j = some w → ρ (g n) = some (.arr 1 w false (j.rs.map Bs)) ∧ F (g n) = (b + 1, n)) h)
  | some j :: l, i, h => by
    have ih := map_Q hF l (i + 1) (getsucc (P := fun n j => ρ (f n) = some (bxG d k (g n) (r j) j) ∧ ∀ w, r j = some w → ρ (g n) = some (.arr 1 w false (j.rs.map Bs)) ∧ F (g n) = (b + 1, n)) h)
    obtain ⟨h1, h2⟩ := h 0 j (by simp)
    rw [Nat.add_zero] at h1 h2
    simp only [nmQ, stQ, List.map_cons, List.map_append, ih, h1, Option.getD_some]
    cases hr : r j with
    | none => simp [bxG, recI, Obj.ren, AVal.renL, AVal.ren, nmR, recS, hF]
    | some w =>
      obtain ⟨h3, h4⟩ := h2 w hr
      simp [bxG, recI, Obj.ren, AVal.renL, AVal.ren, nmR, recS, hF, h3, h4]

theorem lookN_of {nf : Id → Id} : ∀ {nm : List (Id × Id)}, (∀ p ∈ nm, p.2 = nf p.1) → ∀ p ∈ nm, lookN nm p.1 = p.2
  | [], _, p, h => by simp at h
  | (i, j) :: r, hnf, p, h => by
    have h0 : j = nf i := hnf (i, j) (by simp)
    simp only [lookN]
    split
    · rename_i e
      rw [h0, e]
      exact (hnf p h).symm
    · rename_i e
      rcases List.mem_cons.1 h with rfl | h
      · exact absurd rfl e
      · exact lookN_of (fun p hp => hnf p (by simp [hp])) p h

theorem gather_of {ρ : Look} : ∀ {nm : List (Id × Id)}, (∀ p ∈ nm, ∃ o, ρ p.1 = some o) → gather ρ (nm.map (·.1)) = some (nm.map fun p => (ρ p.1).getD default)
  | [], _ => rfl
  | p :: r, h => by
    obtain ⟨o, ho⟩ := h p (by simp)
    have ih := gather_of (nm := r) (fun q hq => h q (by simp [hq]))
    simp only [List.map_cons, gather, ho, ih, Option.getD_some]

theorem zip_of {nm : List (Id × Id)} {G : Id × Id → Obj} {F : Id → Id} (h : ∀ p ∈ nm, F p.1 = p.2) : ((nm.map (·.1)).map F).zip ((nm.map G).map (Obj.ren F)) = nm.map fun p => (p.2, (G p).ren F) := by
  induction nm with
  | nil => rfl
  | cons p r ih => simp only [List.map_cons, List.zip_cons_cons, ih (fun q hq => h q (by simp [hq])), h p (by simp)]
end Go.Am

/- The law JournalDisks, walked. -/
set_option linter.unusedVariables false
set_option linter.unusedSimpArgs false
set_option maxRecDepth 10000
namespace Go.Am
open Go.Proofs

abbrev Act := Int × Int × List UInt8 × List Int
@[simp] def Ac (x : Act) : Dat := .agg [.int .i64 x.1, .int .i64 x.2.1, Bs x.2.2.1, .sl (x.2.2.2.map I64)]

def smallA (l : List Act) : Bool := l.all fun x => decide (x.2.2.1.length ≤ 400) && decide (x.2.2.2.length ≤ 40)

theorem small_loop : ∀ (rest pre : List Act) (s : St), pre.length + rest.length ≤ 30 →
    hd [0, 5] [] s = some ⟨[(0, .dat (.sl ((pre ++ rest).map Ac))), (5, .dat (.int .i64 pre.length))], []⟩ →
    Ev (loopLim (exec KJ l17_0) s) fun q => (q.1 = .ret ∧ smallA rest = false ∧ hd [4] [] q.2 = some ⟨[(4, .dat (.bool false))], []⟩) ∨ (q.1 = .exit 0 ∧ smallA rest = true ∧ hd [] [] q.2 = some ⟨[], []⟩) := by
  intro rest
  induction rest with
  | nil =>
    intro pre s hl hs
    apply ev_loop
    simp [hs, smallA]
  | cons x rest ih =>
    intro pre s hl hs
    apply ev_loop
    rw [List.length_cons] at hl
    obtain ⟨kind, i, b, keep⟩ := x
    have hx : Ix pre.length := by unfold Ix; omega
    have e1 : pre ++ (kind, i, b, keep) :: rest = (pre ++ [(kind, i, b, keep)]) ++ rest := by simp
    by_cases hb : b.length ≤ 400
    · have hb1 : ¬ (400 : Int) < b.length := by omega
      have hb2 : ¬ 400 < b.length := by omega
      by_cases hk : keep.length ≤ 40
      · have hk1 : ¬ (40 : Int) < keep.length := by omega
        have hk2 : ¬ 40 < keep.length := by omega
        have e : smallA ((kind, i, b, keep) :: rest) = smallA rest := by simp [smallA, hb, hk]
        rw [e]
        have ih2 := ih (pre ++ [(kind, i, b, keep)])
        generalize hQ : (fun q : AEx × St => (q.1 = .ret ∧ smallA rest = false ∧ hd [4] [] q.2 = some ⟨[(4, .dat (.bool false))], []⟩) ∨ (q.1 = .exit 0 ∧ smallA rest = true ∧ hd [] [] q.2 = some ⟨[], []⟩)) = Q at ih2 ⊢
        simp [hs, hx, hb1, hb2, hk1, hk2]
        refine Ev.mono (ih2 _ (by simp; omega) (by simp)) (fun _ h => h)
      · have hk1 : (40 : Int) < keep.length := by omega
        have hk2 : 40 < keep.length := by omega
        have e : smallA ((kind, i, b, keep) :: rest) = false := by simp [smallA, hk]
        rw [e]
        simp [hs, hx, hb1, hb2, hk1, hk2]
    · have hb1 : (400 : Int) < b.length := by omega
      have hb2 : 400 < b.length := by omega
      have e : smallA ((kind, i, b, keep) :: rest) = false := by simp [smallA, hb]
      rw [e]
      simp [hs, hx, hb1, hb2]

theorem small_run (l : List Act) (n : Int) : KJ 17 [.dat (.sl (l.map Ac)), .dat (.int .i64 n)] [] = some (.dat (.bool (decide (l.length ≤ 30) && decide (n ≤ 20) && smallA l)), []) := by
  refine callT_ev (fn := fn17) rfl rfl ?_
  by_cases hl : l.length ≤ 30
  · have hl1 : ¬ (30 : Int) < l.length := by omega
    have hl2 : ¬ 30 < l.length := by omega
    by_cases hn : n ≤ 20
    · have hn1 : ¬ 20 < n := by omega
      simp [runFun_eq, hl1, hl2, hl, hn, hn1]
      simp only [ev_bnd_iff]
      refine Ev.mono (small_loop l [] _ (by simpa using hl) (by simp)) ?_
      rintro ⟨x, s⟩ (⟨rfl, e, hs⟩ | ⟨rfl, e, hs⟩)
      · dsimp only at hs
        simp only [blkK, Ev_some, seqK, endK_hd hs, e]
        simp
      · simp at hs
        simp [hs, e]
    · have hn1 : 20 < n := by omega
      simp [runFun_eq, hl1, hl2, hl, hn, hn1]
  · have hl1 : (30 : Int) < l.length := by omega
    have hl2 : 30 < l.length := by omega
    simp [runFun_eq, hl1, hl2, hl]

def psL (id : Id) (sh : Option Nat) (pe : Pe) : Store := match sh with
  | none => []
  | some v2 => [(id, .arr 2 v2 false (pe.map pnd))]

def dls (v1 v2 : Nat) (du : List (List UInt8)) (cr : Int) (sh1 sh2 : Option Nat) (pe : Pe) : Store :=
  ((6, 0), dskB (.rsl (6, 1) v1 1 0 du.length) (pvC (6, 2) sh1 pe) cr 0) :: ((8, 0), dskB (.rsl (8, 1) v2 1 0 du.length) (pvC (8, 2) sh2 pe) cr 0) ::
    (((6, 1), .arr 1 v1 false (du.map Bs)) :: psL (6, 2) sh1 pe ++ ((8, 1), .arr 1 v2 false (du.map Bs)) :: psL (8, 2) sh2 pe)

set_option maxHeartbeats 8000000 in
theorem disks_loop (n : Nat) : ∀ (rest pre : List Act) (v1 v2 m : Nat) (du : List (List UInt8)) (cr : Int) (sh1 sh2 : Option Nat) (pe : Pe) (s : St), pre.length + rest.length ≤ 30 → smallA rest = true → DOK n du pe m → m ≤ pre.length → 0 ≤ cr → cr ≤ pre.length → shOK sh1 pe → shOK sh2 pe →
    hd [1, 5, 7, 9] [1, 5, 7] s = some ⟨[(1, .dat (.sl ((pre ++ rest).map Ac))), (5, .ref (6, 0) 0), (7, .ref (8, 0) 0), (9, .dat (.int .i64 pre.length))], dls v1 v2 du cr sh1 sh2 pe⟩ →
    Ev (loopLim (exec KJ l4_0) s) fun q => q.1 = .exit 0 := by
  intro rest
  induction rest with
  | nil =>
    intro pre v1 v2 m du cr sh1 sh2 pe s hl hsm hD hm h1 h2 hs1 hs2 hs
    apply ev_loop
    rcases hs1 with ⟨rfl, rfl⟩ | ⟨w1, rfl, g1⟩ <;> rcases hs2 with ⟨rfl, h0⟩ | ⟨w2, rfl, g2⟩ <;> simp [hs, dls, dskB, pvC, psL]
  | cons x rest ih =>
    intro pre v1 v2 m du cr sh1 sh2 pe s hl hsm hD hm h1 h2 hs1 hs2 hs
    apply ev_loop
    rw [List.length_cons] at hl
    obtain ⟨kind, i, b, keep⟩ := x
    simp only [smallA, List.all_cons, Bool.and_eq_true, decide_eq_true_eq] at hsm
    obtain ⟨⟨hb, hkl⟩, hsm⟩ := hsm
    have hx : Ix pre.length := by unfold Ix; omega
    have ih2 := ih (pre ++ [(kind, i, b, keep)])
    have e1 : pre ++ (kind, i, b, keep) :: rest = (pre ++ [(kind, i, b, keep)]) ++ rest := by simp
    rw [← e1, show (pre ++ [(kind, i, b, keep)]).length = pre.length + 1 from by simp] at ih2
    have hpl := hD.pl
    by_cases hk2 : kind = 2
    · -- Sync
      subst hk2
      have hD2 := sync_ok hD
      have q1 := sync_c (v := v1) (cr := cr) (op := 0) hD (by omega) hs1
      have q2 := rsync_c (v := v2) (cr := cr) (op := 0) hD (by omega) hs2
      obtain ⟨X, e, r1, r2⟩ := reads_c (v := v1) (v' := v2) (cr := cr) (op := 0) (cr' := cr) (op' := 0) (sh := none) (sh' := none) hD2 (by omega) (.inl ⟨rfl, rfl⟩) (.inl ⟨rfl, rfl⟩) i
      have hsame := same_run X X
      rw [show (X == X) = true from by simp] at hsame
      have p1 := pending_run (v := v1) (du := syncS pe du) (cr := cr) (op := 0) (.inl ⟨rfl, rfl, rfl⟩ : Pend [] .nils [])
      have p2 := rpending_run (v := v2) (du := syncS pe du) (cr := cr) (op := 0) (.inl ⟨rfl, rfl, rfl⟩ : Pend [] .nils [])
      generalize hS : syncS pe du = S at *
      have hSl : S.length = du.length := by rw [← hS, syncS_len]
      generalize hQ : (fun q : AEx × St => q.1 = AEx.exit 0) = Q at ih2 ⊢
      rcases hs1 with ⟨rfl, rfl⟩ | ⟨w1, rfl, g1⟩ <;> rcases hs2 with ⟨rfl, h0⟩ | ⟨w2, rfl, g2⟩
      all_goals
        simp [dskC, dsk, dskB, pvC, poC] at q1 q2 r1 r2 p1 p2
        simp [hs, dls, dskB, pvC, psL, hx, q1, q2, r1, r2, p1, p2, hsame]
        refine Ev.mono (ih2 v1 v2 m S cr none none [] _ (by omega) hsm hD2 (by omega) h1 (by omega) (.inl ⟨rfl, rfl⟩) (.inl ⟨rfl, rfl⟩) (by simp [dls, dskB, pvC, psL, hSl])) (fun _ h => h)
    · by_cases hk0 : kind = 0
      · subst hk0
        obtain ⟨b', hb', hsec⟩ : ∃ b' : List UInt8, b'.length ≤ 400 ∧ ((b.length = 3 ∧ b' = b) ∨ (b.length ≠ 3 ∧ KJ 19 [.dat (.sl (b.map B))] [] = some (.dat (.sl (b'.map B)), []))) := by
          by_cases h3 : b.length = 3
          · exact ⟨b, hb, .inl ⟨h3, rfl⟩⟩
          · exact ⟨_, by simp; omega, .inr ⟨h3, sector_run b (by omega)⟩⟩
        have hD2 := wr_ok hD i b'
        obtain ⟨sh1', o1, q1⟩ := write_c (v := v1) (cr := cr) (op := 0) hD (by omega) hs1 i b'
        obtain ⟨sh2', o2, q2⟩ := rwrite_c (v := v2) (cr := cr) (op := 0) hD (by omega) hs2 i b'
        obtain ⟨X, e, r1, r2⟩ := reads_c (v := v1) (v' := v2) (cr := cr) (op := 0) (cr' := cr) (op' := 0) hD2 (by omega) o1 o2 i
        have hsame := same_run X X
        rw [show (X == X) = true from by simp] at hsame
        have p1 := pending_run (v := v1) (du := du) (cr := cr) (op := 0) o1.pend
        have p2 := rpending_run (v := v2) (du := du) (cr := cr) (op := 0) o2.pend
        have hnil := wr_nil (n := n) (pe := pe) (i := i) (b := b')
        generalize wrP n pe i b' = pe' at *
        generalize wrE n i b' = er at *
        generalize hQ : (fun q : AEx × St => q.1 = AEx.exit 0) = Q at ih2 ⊢
        rcases hs1 with ⟨rfl, rfl⟩ | ⟨w1, rfl, g1⟩ <;> rcases hs2 with ⟨rfl, h0⟩ | ⟨w2, rfl, g2⟩
        · rcases o1 with ⟨rfl, rfl⟩ | ⟨w1, rfl, g1⟩ <;> rcases o2 with ⟨rfl, h0⟩ | ⟨w2, rfl, g2⟩
          · simp [dskC, dsk, dskB, pvC, poC] at q1 q2 r1 r2 p1 p2
            rcases hsec with ⟨h3, rfl⟩ | ⟨h3, hsec⟩
            · have h3' : (b'.length : Int) = 3 := by omega
              simp [hs, dls, dskB, pvC, psL, hx, q1, q2, r1, r2, p1, p2, hsame, h3, h3']
              refine Ev.mono (ih2 v1 v2 (m + 1) du cr none none [] _ (by omega) hsm hD2 (by omega) h1 (by omega) (.inl ⟨rfl, rfl⟩) (.inl ⟨rfl, rfl⟩) (by simp [dls, dskB, pvC, psL])) (fun _ h => h)
            · have h3' : ¬ (b.length : Int) = 3 := by omega
              simp [hs, dls, dskB, pvC, psL, hx, q1, q2, r1, r2, p1, p2, hsame, h3, h3', hsec]
              refine Ev.mono (ih2 v1 v2 (m + 1) du cr none none [] _ (by omega) hsm hD2 (by omega) h1 (by omega) (.inl ⟨rfl, rfl⟩) (.inl ⟨rfl, rfl⟩) (by simp [dls, dskB, pvC, psL])) (fun _ h => h)
          · exact absurd rfl g2
          · exact absurd h0 g1
          · simp [dskC, dsk, dskB, pvC, poC] at q1 q2 r1 r2 p1 p2
            rcases hsec with ⟨h3, rfl⟩ | ⟨h3, hsec⟩
            · have h3' : (b'.length : Int) = 3 := by omega
              simp [hs, dls, dskB, pvC, psL, hx, q1, q2, r1, r2, p1, p2, hsame, h3, h3']
              refine Ev.mono (ih2 v1 v2 (m + 1) du cr (some w1) (some w2) pe' _ (by omega) hsm hD2 (by omega) h1 (by omega) (.inr ⟨w1, rfl, g1⟩) (.inr ⟨w2, rfl, g2⟩) (by simp [dls, dskB, pvC, psL])) (fun _ h => h)
            · have h3' : ¬ (b.length : Int) = 3 := by omega
              simp [hs, dls, dskB, pvC, psL, hx, q1, q2, r1, r2, p1, p2, hsame, h3, h3', hsec]
              refine Ev.mono (ih2 v1 v2 (m + 1) du cr (some w1) (some w2) pe' _ (by omega) hsm hD2 (by omega) h1 (by omega) (.inr ⟨w1, rfl, g1⟩) (.inr ⟨w2, rfl, g2⟩) (by simp [dls, dskB, pvC, psL])) (fun _ h => h)
        · exact absurd rfl g2
        · exact absurd h0 g1
        · rcases o1 with ⟨rfl, h9⟩ | ⟨x1, rfl, f1⟩
          · exact absurd (hnil h9) g1
          · rcases o2 with ⟨rfl, h9⟩ | ⟨x2, rfl, f2⟩
            · exact absurd (hnil h9) g1
            · simp [dskC, dsk, dskB, pvC, poC] at q1 q2 r1 r2 p1 p2
              rcases hsec with ⟨h3, rfl⟩ | ⟨h3, hsec⟩
              · have h3' : (b'.length : Int) = 3 := by omega
                simp [hs, dls, dskB, pvC, psL, hx, q1, q2, r1, r2, p1, p2, hsame, h3, h3']
                refine Ev.mono (ih2 v1 v2 (m + 1) du cr (some x1) (some x2) pe' _ (by omega) hsm hD2 (by omega) h1 (by omega) (.inr ⟨x1, rfl, f1⟩) (.inr ⟨x2, rfl, f2⟩) (by simp [dls, dskB, pvC, psL])) (fun _ h => h)
              · have h3' : ¬ (b.length : Int) = 3 := by omega
                simp [hs, dls, dskB, pvC, psL, hx, q1, q2, r1, r2, p1, p2, hsame, h3, h3', hsec]
                refine Ev.mono (ih2 v1 v2 (m + 1) du cr (some x1) (some x2) pe' _ (by omega) hsm hD2 (by omega) h1 (by omega) (.inr ⟨x1, rfl, f1⟩) (.inr ⟨x2, rfl, f2⟩) (by simp [dls, dskB, pvC, psL])) (fun _ h => h)
      · by_cases hk3 : kind = 3
        · subst hk3
          have q1 := crash_run (v := v1) (du := du) (cr := cr) (op := 0) hs1.pend (by rw [hD.len]; exact hD.pin) (by omega) keep (by omega) h1 (by omega)
          have q2 := rcrash_run (v := v2) (du := du) (cr := cr) (op := 0) hs2.pend (by rw [hD.len]; exact hD.pin) (by omega) keep (by omega) h1 (by omega)
          by_cases hok : okK keep pe.length = true
          · rw [if_pos hok] at q1 q2
            have hD2 := crash_ok hD keep
            obtain ⟨X, e, r1, r2⟩ := reads_c (v := v1) (v' := v2) (cr := cr + 1) (op := 0) (cr' := cr + 1) (op' := 0) (sh := none) (sh' := none) hD2 (by omega) (.inl ⟨rfl, rfl⟩) (.inl ⟨rfl, rfl⟩) i
            have hsame := same_run X X
            rw [show (X == X) = true from by simp] at hsame
            have p1 := pending_run (v := v1) (du := crashW keep 0 pe du) (cr := cr + 1) (op := 0) (.inl ⟨rfl, rfl, rfl⟩ : Pend [] .nils [])
            have p2 := rpending_run (v := v2) (du := crashW keep 0 pe du) (cr := cr + 1) (op := 0) (.inl ⟨rfl, rfl, rfl⟩ : Pend [] .nils [])
            have hSl := crashW_len keep pe 0 du
            generalize crashW keep 0 pe du = S at *
            generalize hQ : (fun q : AEx × St => q.1 = AEx.exit 0) = Q at ih2 ⊢
            rcases hs1 with ⟨rfl, rfl⟩ | ⟨w1, rfl, g1⟩ <;> rcases hs2 with ⟨rfl, h0⟩ | ⟨w2, rfl, g2⟩
            all_goals
              simp [dskC, dsk, dskB, pvC, poC] at q1 q2 r1 r2 p1 p2
              simp [hs, dls, dskB, pvC, psL, hx, q1, q2, r1, r2, p1, p2, hsame]
              refine Ev.mono (ih2 v1 v2 m S (cr + 1) none none [] _ (by omega) hsm hD2 (by omega) (by omega) (by omega) (.inl ⟨rfl, rfl⟩) (.inl ⟨rfl, rfl⟩) (by simp [dls, dskB, pvC, psL, hSl])) (fun _ h => h)
          · rw [if_neg hok] at q1 q2
            obtain ⟨X, e, r1, r2⟩ := reads_c (v := v1) (v' := v2) (cr := cr) (op := 0) (cr' := cr) (op' := 0) hD (by omega) hs1 hs2 i
            have hsame := same_run X X
            rw [show (X == X) = true from by simp] at hsame
            have p1 := pending_run (v := v1) (du := du) (cr := cr) (op := 0) hs1.pend
            have p2 := rpending_run (v := v2) (du := du) (cr := cr) (op := 0) hs2.pend
            generalize hQ : (fun q : AEx × St => q.1 = AEx.exit 0) = Q at ih2 ⊢
            rcases hs1 with ⟨rfl, rfl⟩ | ⟨w1, rfl, g1⟩ <;> rcases hs2 with ⟨rfl, h0⟩ | ⟨w2, rfl, g2⟩
            · simp [dskC, dsk, dskB, pvC, poC] at q1 q2 r1 r2 p1 p2
              simp [hs, dls, dskB, pvC, psL, hx, q1, q2, r1, r2, p1, p2, hsame]
              refine Ev.mono (ih2 v1 v2 m du cr none none [] _ (by omega) hsm hD (by omega) (by omega) (by omega) (.inl ⟨rfl, rfl⟩) (.inl ⟨rfl, rfl⟩) (by simp [dls, dskB, pvC, psL])) (fun _ h => h)
            · exact absurd rfl g2
            · exact absurd h0 g1
            · simp [dskC, dsk, dskB, pvC, poC] at q1 q2 r1 r2 p1 p2
              simp [hs, dls, dskB, pvC, psL, hx, q1, q2, r1, r2, p1, p2, hsame]
              refine Ev.mono (ih2 v1 v2 m du cr (some w1) (some w2) pe _ (by omega) hsm hD (by omega) (by omega) (by omega) (.inr ⟨w1, rfl, g1⟩) (.inr ⟨w2, rfl, g2⟩) (by simp [dls, dskB, pvC, psL])) (fun _ h => h)
        · obtain ⟨X, e, r1, r2⟩ := reads_c (v := v1) (v' := v2) (cr := cr) (op := 0) (cr' := cr) (op' := 0) hD (by omega) hs1 hs2 i
          have hsame := same_run X X
          rw [show (X == X) = true from by simp] at hsame
          have p1 := pending_run (v := v1) (du := du) (cr := cr) (op := 0) hs1.pend
          have p2 := rpending_run (v := v2) (du := du) (cr := cr) (op := 0) hs2.pend
          generalize hQ : (fun q : AEx × St => q.1 = AEx.exit 0) = Q at ih2 ⊢
          rcases hs1 with ⟨rfl, rfl⟩ | ⟨w1, rfl, g1⟩ <;> rcases hs2 with ⟨rfl, h0⟩ | ⟨w2, rfl, g2⟩
          · simp [dskC, dsk, dskB, pvC, poC] at r1 r2 p1 p2
            simp [hs, dls, dskB, pvC, psL, hx, r1, r2, p1, p2, hsame, hk0, hk2, hk3]
            refine Ev.mono (ih2 v1 v2 m du cr none none [] _ (by omega) hsm hD (by omega) (by omega) (by omega) (.inl ⟨rfl, rfl⟩) (.inl ⟨rfl, rfl⟩) (by simp [dls, dskB, pvC, psL])) (fun _ h => h)
          · exact absurd rfl g2
          · exact absurd h0 g1
          · simp [dskC, dsk, dskB, pvC, poC] at r1 r2 p1 p2
            simp [hs, dls, dskB, pvC, psL, hx, r1, r2, p1, p2, hsame, hk0, hk2, hk3]
            refine Ev.mono (ih2 v1 v2 m du cr (some w1) (some w2) pe _ (by omega) hsm hD (by omega) (by omega) (by omega) (.inr ⟨w1, rfl, g1⟩) (.inr ⟨w2, rfl, g2⟩) (by simp [dls, dskB, pvC, psL])) (fun _ h => h)
end Go.Am

/- Lists of journals: the store at a loop's head. -/
set_option linter.unusedVariables false
set_option linter.unusedSimpArgs false
set_option maxRecDepth 10000
namespace Go.Am
open Go.Proofs

def nmD (sh : Option Nat) (p : Id) (c : Nat) : List (Id × Id) := ((c, 0), (c, 0)) :: ((c, 1), (c, 1)) :: nmR p (c, 2) sh

/-- what lies in a store of two disks and their journals -/
structure Lk (O : Store) (v1 v2 : Nat) (du : List (List UInt8)) (pe : Pe) (cr op : Int) (sh1 sh2 : Option Nat) (p1 p2 : Id) (vj vr : Nat) (JS : JL) (f g f' g' : Nat → Id) : Prop where
  nz : ∀ p ∈ O, p.1.1 ≠ 0
  d0 : gO O (6, 0) = some (dskB (.rsl (6, 1) v1 1 0 du.length) (pvC p1 sh1 pe) cr op)
  d1 : gO O (6, 1) = some (.arr 1 v1 false (du.map Bs))
  d2 : ∀ w, sh1 = some w → gO O p1 = some (.arr 2 w false (pe.map pnd))
  e0 : gO O (8, 0) = some (dskB (.rsl (8, 1) v2 1 0 du.length) (pvC p2 sh2 pe) cr op)
  e1 : gO O (8, 1) = some (.arr 1 v2 false (du.map Bs))
  e2 : ∀ w, sh2 = some w → gO O p2 = some (.arr 2 w false (pe.map pnd))
  j0 : gO O (10, 0) = some (.rarr vj (refsQ f 0 JS))
  r0 : gO O (11, 0) = some (.rarr vr (refsQ f' 0 JS))
  js : ∀ n j, JS[n]? = some (some j) → gO O (f n) = some (bxG (6, 0) .u32 (g n) j.r1 j) ∧ ∀ w, j.r1 = some w → gO O (g n) = some (.arr 1 w false (j.rs.map Bs))
  rs : ∀ n j, JS[n]? = some (some j) → gO O (f' n) = some (bxG (8, 0) .i64 (g' n) j.r2 j) ∧ ∀ w, j.r2 = some w → gO O (g' n) = some (.arr 1 w false (j.rs.map Bs))
  q1 : p1 = (6, 2) ∨ p1 = (89, 0)
  q2 : p2 = (8, 2) ∨ p2 = (96, 0)

/-- how the objects are to be named -/
structure Nf (nf : Id → Id) (p1 p2 : Id) (JS : JL) (f g f' g' : Nat → Id) : Prop where
  a : nf (6, 0) = (6, 0)
  b : nf (6, 1) = (6, 1)
  c : nf p1 = (6, 2)
  d : nf (8, 0) = (8, 0)
  e : nf (8, 1) = (8, 1)
  h : nf p2 = (8, 2)
  i : nf (10, 0) = (10, 0)
  j : nf (11, 0) = (11, 0)
  js : ∀ n j, JS[n]? = some (some j) → nf (f n) = (1000, n) ∧ (j.r1 ≠ none → nf (g n) = (1001, n)) ∧ nf (f' n) = (1002, n) ∧ (j.r2 ≠ none → nf (g' n) = (1003, n))

def psQ (id : Id) (pe : Pe) : Option Nat → Store
  | none => []
  | some w => [(id, .arr 2 w false (pe.map pnd))]
/-- the journals' part of the store -/
def tlQ (JS : JL) : Store := stQ (6, 0) .u32 JJ.r1 1000 0 JS ++ stQ (8, 0) .i64 JJ.r2 1002 0 JS
/-- the store at a head -/
def HS (v1 v2 : Nat) (du : List (List UInt8)) (pe : Pe) (cr op : Int) (sh1 sh2 : Option Nat) (vj vr : Nat) (JS : JL) : Store :=
  ((6, 0), dskB (.rsl (6, 1) v1 1 0 du.length) (pvC (6, 2) sh1 pe) cr op) :: ((6, 1), .arr 1 v1 false (du.map Bs)) :: (psQ (6, 2) pe sh1 ++
    ((8, 0), dskB (.rsl (8, 1) v2 1 0 du.length) (pvC (8, 2) sh2 pe) cr op) :: ((8, 1), .arr 1 v2 false (du.map Bs)) :: (psQ (8, 2) pe sh2 ++
      ((10, 0), .rarr vj (refsQ (fun n => (1000, n)) 0 JS)) :: ((11, 0), .rarr vr (refsQ (fun n => (1002, n)) 0 JS)) :: tlQ JS))

def allN (sh1 sh2 : Option Nat) (p1 p2 : Id) (JS : JL) (f g f' g' : Nat → Id) : List (Id × Id) :=
  (nmD sh1 p1 6 ++ nmD sh2 p2 8) ++ [((10, 0), (10, 0)), ((11, 0), (11, 0))] ++ (nmQ f g JJ.r1 1000 0 JS ++ nmQ f' g' JJ.r2 1002 0 JS)

section
variable {O : Store} {v1 v2 : Nat} {du : List (List UInt8)} {pe : Pe} {cr op : Int} {sh1 sh2 : Option Nat} {p1 p2 : Id} {vj vr : Nat} {JS : JL} {f g f' g' : Nat → Id} {nf : Id → Id}

theorem names_J (H : Lk O v1 v2 du pe cr op sh1 sh2 p1 p2 vj vr JS f g f' g') {G : Nat → AVal} (h5 : G 5 = .ref (6, 0) 0) (h7 : G 7 = .ref (8, 0) 0) : namesE (gO O) G [5, 7] [] = some (nmD sh1 p1 6 ++ nmD sh2 p2 8) := by
  have a := H.d0; have b := H.d1; have c := H.d2; have a' := H.e0; have b' := H.e1; have c' := H.e2
  cases sh1 with
  | none =>
    cases sh2 with
    | none => simp [h5, h7, a, b, a', b', dskB, pvC, nmD, nmR]
    | some w2 =>
      have c' := c' w2 rfl
      rcases H.q2 with rfl | rfl <;> simp [h5, h7, a, b, a', b', c', dskB, pvC, nmD, nmR]
  | some w1 =>
    have c := c w1 rfl
    cases sh2 with
    | none => rcases H.q1 with rfl | rfl <;> simp [h5, h7, a, b, a', b', c, dskB, pvC, nmD, nmR]
    | some w2 =>
      have c' := c' w2 rfl
      rcases H.q1 with rfl | rfl <;> rcases H.q2 with rfl | rfl <;> simp [h5, h7, a, b, a', b', c, c', dskB, pvC, nmD, nmR]

theorem nf_all (N : Nf nf p1 p2 JS f g f' g') : ∀ p ∈ allN sh1 sh2 p1 p2 JS f g f' g', p.2 = nf p.1 := by
  intro p hp
  simp only [allN, nmD, List.mem_append, List.mem_cons, List.not_mem_nil, or_false] at hp
  have hR : ∀ (id id' : Id) (sh : Option Nat), nf id = id' → p ∈ nmR id id' sh → p.2 = nf p.1 := by
    intro id id' sh h hp
    cases sh with
    | none => simp [nmR] at hp
    | some w => simp [nmR] at hp; subst hp; exact h.symm
  rcases hp with (((rfl | rfl | hp) | (rfl | rfl | hp)) | (rfl | rfl)) | (hp | hp)
  · exact N.a.symm
  · exact N.b.symm
  · exact hR _ _ _ N.c hp
  · exact N.d.symm
  · exact N.e.symm
  · exact hR _ _ _ N.h hp
  · exact N.i.symm
  · exact N.j.symm
  · obtain ⟨n, j, h1, h2⟩ := (nmQ_mem JS 0 p).1 hp
    rw [Nat.zero_add] at h2
    obtain ⟨x1, x2, x3, x4⟩ := N.js n j h1
    rcases h2 with rfl | ⟨hr, rfl⟩
    · exact x1.symm
    · exact (x2 hr).symm
  · obtain ⟨n, j, h1, h2⟩ := (nmQ_mem JS 0 p).1 hp
    rw [Nat.zero_add] at h2
    obtain ⟨x1, x2, x3, x4⟩ := N.js n j h1
    rcases h2 with rfl | ⟨hr, rfl⟩
    · exact x3.symm
    · exact (x4 hr).symm

/-- what every object leads to is there -/
theorem all_closed (H : Lk O v1 v2 du pe cr op sh1 sh2 p1 p2 vj vr JS f g f' g') : ∀ p ∈ allN sh1 sh2 p1 p2 JS f g f' g', ∃ o, gO O p.1 = some o ∧ ∀ i ∈ o.ids, i ∈ (allN sh1 sh2 p1 p2 JS f g f' g').map (·.1) := by
  have m60 : (6, 0) ∈ (allN sh1 sh2 p1 p2 JS f g f' g').map (·.1) := by simp [allN, nmD]
  have m61 : (6, 1) ∈ (allN sh1 sh2 p1 p2 JS f g f' g').map (·.1) := by simp [allN, nmD]
  have m80 : (8, 0) ∈ (allN sh1 sh2 p1 p2 JS f g f' g').map (·.1) := by simp [allN, nmD]
  have m81 : (8, 1) ∈ (allN sh1 sh2 p1 p2 JS f g f' g').map (·.1) := by simp [allN, nmD]
  have mp1 : ∀ w, sh1 = some w → p1 ∈ (allN sh1 sh2 p1 p2 JS f g f' g').map (·.1) := by rintro w rfl; simp [allN, nmD, nmR]
  have mp2 : ∀ w, sh2 = some w → p2 ∈ (allN sh1 sh2 p1 p2 JS f g f' g').map (·.1) := by rintro w rfl; simp [allN, nmD, nmR]
  have mQ : ∀ n j, JS[n]? = some (some j) → f n ∈ (allN sh1 sh2 p1 p2 JS f g f' g').map (·.1) ∧ (j.r1 ≠ none → g n ∈ (allN sh1 sh2 p1 p2 JS f g f' g').map (·.1)) ∧ f' n ∈ (allN sh1 sh2 p1 p2 JS f g f' g').map (·.1) ∧ (j.r2 ≠ none → g' n ∈ (allN sh1 sh2 p1 p2 JS f g f' g').map (·.1)) := by
    intro n j hn
    have a1 : ∀ x, (f n, x) ∈ nmQ f g JJ.r1 1000 0 JS → f n ∈ (allN sh1 sh2 p1 p2 JS f g f' g').map (·.1) := fun x hx => List.mem_map.2 ⟨_, by simp only [allN, List.mem_append]; exact .inr (.inl hx), rfl⟩
    have a2 : ∀ x, (g n, x) ∈ nmQ f g JJ.r1 1000 0 JS → g n ∈ (allN sh1 sh2 p1 p2 JS f g f' g').map (·.1) := fun x hx => List.mem_map.2 ⟨_, by simp only [allN, List.mem_append]; exact .inr (.inl hx), rfl⟩
    have a3 : ∀ x, (f' n, x) ∈ nmQ f' g' JJ.r2 1002 0 JS → f' n ∈ (allN sh1 sh2 p1 p2 JS f g f' g').map (·.1) := fun x hx => List.mem_map.2 ⟨_, by simp only [allN, List.mem_append]; exact .inr (.inr hx), rfl⟩
    have a4 : ∀ x, (g' n, x) ∈ nmQ f' g' JJ.r2 1002 0 JS → g' n ∈ (allN sh1 sh2 p1 p2 JS f g f' g').map (·.1) := fun x hx => List.mem_map.2 ⟨_, by simp only [allN, List.mem_append]; exact .inr (.inr hx), rfl⟩
    refine ⟨a1 (1000, n) ?_, fun h => a2 (1001, n) ?_, a3 (1002, n) ?_, fun h => a4 (1003, n) ?_⟩
    · exact (nmQ_mem JS 0 _).2 ⟨n, j, hn, .inl (by simp)⟩
    · exact (nmQ_mem JS 0 _).2 ⟨n, j, hn, .inr ⟨h, by simp⟩⟩
    · exact (nmQ_mem JS 0 _).2 ⟨n, j, hn, .inl (by simp)⟩
    · exact (nmQ_mem JS 0 _).2 ⟨n, j, hn, .inr ⟨h, by simp⟩⟩
  have rI : ∀ (id : Id) (rs : List (List UInt8)) (r : Option Nat), ∀ i ∈ (recI id rs r).ids, r ≠ none ∧ i = id := by
    intro id rs r i hi
    cases r with
    | none => simp [recI, AVal.ids] at hi
    | some w => simp [recI, AVal.ids] at hi; exact ⟨by simp, hi⟩
  have pI : ∀ (id : Id) (sh : Option Nat), ∀ i ∈ (pvC id sh pe).ids, (∃ w, sh = some w) ∧ i = id := by
    intro id sh i hi
    cases sh with
    | none => simp [pvC, AVal.ids] at hi
    | some w => simp [pvC, AVal.ids] at hi; exact ⟨⟨w, rfl⟩, hi⟩
  have bI : ∀ (d : Id) (k : IntKind) (id : Id) (r : Option Nat) (j : JJ), ∀ i ∈ (bxG d k id r j).ids, i = d ∨ (r ≠ none ∧ i = id) := by
    intro d k id r j i hi
    simp only [bxG, Obj.ids, AVal.idsL, AVal.ids, List.append_nil, List.cons_append, List.nil_append, List.mem_cons] at hi
    rcases hi with hi | hi
    · exact .inl hi
    · exact .inr (rI _ _ _ i hi)
  intro p hp
  have hq := hp
  simp only [allN, nmD, List.mem_append, List.mem_cons, List.not_mem_nil, or_false] at hp
  rcases hp with (((rfl | rfl | hp) | (rfl | rfl | hp)) | (rfl | rfl)) | (hp | hp)
  · refine ⟨_, H.d0, fun i hi => ?_⟩
    simp only [dskB, Obj.ids, AVal.idsL, AVal.ids, List.append_nil, List.cons_append, List.nil_append, List.mem_cons] at hi
    rcases hi with rfl | hi
    · exact m61
    · obtain ⟨⟨w, hw⟩, rfl⟩ := pI _ _ i hi
      exact mp1 w hw
  · exact ⟨_, H.d1, fun i hi => by simp [Obj.ids] at hi⟩
  · cases sh1 with
    | none => simp [nmR] at hp
    | some w => simp [nmR] at hp; subst hp; exact ⟨_, H.d2 w rfl, fun i hi => by simp [Obj.ids] at hi⟩
  · refine ⟨_, H.e0, fun i hi => ?_⟩
    simp only [dskB, Obj.ids, AVal.idsL, AVal.ids, List.append_nil, List.cons_append, List.nil_append, List.mem_cons] at hi
    rcases hi with rfl | hi
    · exact m81
    · obtain ⟨⟨w, hw⟩, rfl⟩ := pI _ _ i hi
      exact mp2 w hw
  · exact ⟨_, H.e1, fun i hi => by simp [Obj.ids] at hi⟩
  · cases sh2 with
    | none => simp [nmR] at hp
    | some w => simp [nmR] at hp; subst hp; exact ⟨_, H.e2 w rfl, fun i hi => by simp [Obj.ids] at hi⟩
  · refine ⟨_, H.j0, fun i hi => ?_⟩
    obtain ⟨n, j, h1, h2⟩ := refsQ_mem JS 0 i hi
    rw [Nat.zero_add] at h2
    subst h2
    exact (mQ n j h1).1
  · refine ⟨_, H.r0, fun i hi => ?_⟩
    obtain ⟨n, j, h1, h2⟩ := refsQ_mem JS 0 i hi
    rw [Nat.zero_add] at h2
    subst h2
    exact (mQ n j h1).2.2.1
  · obtain ⟨n, j, h1, h2⟩ := (nmQ_mem JS 0 p).1 hp
    rw [Nat.zero_add] at h2
    obtain ⟨x1, x2⟩ := H.js n j h1
    rcases h2 with rfl | ⟨hr, rfl⟩
    · refine ⟨_, x1, fun i hi => ?_⟩
      rcases bI _ _ _ _ _ i hi with rfl | ⟨h, rfl⟩
      · exact m60
      · exact (mQ n j h1).2.1 h
    · obtain ⟨w, hw⟩ := Option.ne_none_iff_exists'.1 hr
      exact ⟨_, x2 w hw, fun i hi => by simp [Obj.ids] at hi⟩
  · obtain ⟨n, j, h1, h2⟩ := (nmQ_mem JS 0 p).1 hp
    rw [Nat.zero_add] at h2
    obtain ⟨x1, x2⟩ := H.rs n j h1
    rcases h2 with rfl | ⟨hr, rfl⟩
    · refine ⟨_, x1, fun i hi => ?_⟩
      rcases bI _ _ _ _ _ i hi with rfl | ⟨h, rfl⟩
      · exact m80
      · exact (mQ n j h1).2.2.2 h
    · obtain ⟨w, hw⟩ := Option.ne_none_iff_exists'.1 hr
      exact ⟨_, x2 w hw, fun i hi => by simp [Obj.ids] at hi⟩

theorem all_nodup : ((allN sh1 sh2 p1 p2 JS f g f' g').map fun p => p.2).Nodup := by
  have s1 := nmQ_snd (f := f) (g := g) (r := JJ.r1) (b := 1000) JS 0
  have s2 := nmQ_snd (f := f') (g := g') (r := JJ.r2) (b := 1002) JS 0
  have hc : ∀ x ∈ (((nmD sh1 p1 6 ++ nmD sh2 p2 8) ++ [((10, 0), (10, 0)), ((11, 0), (11, 0))] : List (Id × Id)).map fun p => p.2), x.1 < 1000 := by
    cases sh1 <;> cases sh2 <;> simp [nmD, nmR]
  simp only [allN]
  rw [List.map_append, List.nodup_append]
  refine ⟨?_, ?_, ?_⟩
  · cases sh1 <;> cases sh2 <;> simp [nmD, nmR]
  · rw [List.map_append, List.nodup_append]
    refine ⟨nmQ_nodup JS 0, nmQ_nodup JS 0, ?_⟩
    rintro x hx y hy rfl
    have := (s1 x hx).1
    have := (s2 x hy).1
    omega
  · rintro x hx y hy rfl
    have h1 := hc x hx
    rw [List.map_append, List.mem_append] at hy
    rcases hy with hy | hy
    · have := (s1 x hy).1; omega
    · have := (s2 x hy).1; omega

/-- THE HEAD: the objects get their names -/
theorem renJ (H : Lk O v1 v2 du pe cr op sh1 sh2 p1 p2 vj vr JS f g f' g') (N : Nf nf p1 p2 JS f g f' g') (x0 x1 : Dat) (rest : List (Nat × Dat)) (n : Nat) (hr : ∀ q ∈ rest, q.1 ≠ 5 ∧ q.1 ≠ 7) :
    renE [1000, 9, 10, 5, 7] ⟨(0, .dat x0) :: (1, .dat x1) :: (5, .ref (6, 0) 0) :: (7, .ref (8, 0) 0) :: (9, .rsl (10, 0) vj 1 0 n) :: (10, .rsl (11, 0) vr 1 0 n) :: rest.map (fun q => (q.1, .dat q.2)), O⟩ =
      some ⟨(0, .dat x0) :: (1, .dat x1) :: (5, .ref (6, 0) 0) :: (7, .ref (8, 0) 0) :: (9, .rsl (10, 0) vj 1 0 n) :: (10, .rsl (11, 0) vr 1 0 n) :: rest.map (fun q => (q.1, .dat q.2)), HS v1 v2 du pe cr op sh1 sh2 vj vr JS⟩ := by
  have hnm := names_J H (G := gE ((0, .dat x0) :: (1, .dat x1) :: (5, .ref (6, 0) 0) :: (7, .ref (8, 0) 0) :: (9, .rsl (10, 0) vj 1 0 n) :: (10, .rsl (11, 0) vr 1 0 n) :: rest.map (fun q => (q.1, .dat q.2)))) (by simp) (by simp)
  have hnf := nf_all (sh1 := sh1) (sh2 := sh2) N
  have hlk := lookN_of hnf
  have hcl := all_closed H
  have hnd := all_nodup (sh1 := sh1) (sh2 := sh2) (p1 := p1) (p2 := p2) (JS := JS) (f := f) (g := g) (f' := f') (g' := g')
  have hga := gather_of (ρ := gO O) (nm := allN sh1 sh2 p1 p2 JS f g f' g') (fun p hp => by obtain ⟨o, ho, _⟩ := hcl p hp; exact ⟨o, ho⟩)
  have hzp := zip_of (G := fun p => (gO O p.1).getD default) hlk
  have hmm : (((allN sh1 sh2 p1 p2 JS f g f' g').map fun p => p.1).map (lookN (allN sh1 sh2 p1 p2 JS f g f' g'))) = (allN sh1 sh2 p1 p2 JS f g f' g').map fun p => p.2 := by
    rw [List.map_map]
    exact List.map_congr_left fun p hp => hlk p hp
  -- who is not among the roots
  have hout : ∀ id c k, nf id = (c, k) → 1000 ≤ c → id ∉ (nmD sh1 p1 6 ++ nmD sh2 p2 8).map fun p => p.1 := by
    intro id c k h hc hm
    obtain ⟨p, hp, rfl⟩ := List.mem_map.1 hm
    have e := hnf p (by simp only [allN, List.mem_append] at hp ⊢; exact .inl (.inl hp))
    rw [h] at e
    have : p.2.1 < 1000 := by
      have hc : ∀ p ∈ (nmD sh1 p1 6 ++ nmD sh2 p2 8 : List (Id × Id)), p.2.1 < 1000 := by
        cases sh1 <;> cases sh2 <;> simp [nmD, nmR]
      exact hc p hp
    rw [e] at this
    simp at this
    omega
  have hP := places_Q (ρ := gO O) (f := f) (g := g) (r := JJ.r1) (b := 1000) (d := (6, 0)) (k := .u32) (done := (nmD sh1 p1 6 ++ nmD sh2 p2 8).map fun p => p.1) (by simp [nmD]) JS 0 (fun n j hn => by
    rw [Nat.zero_add]
    exact ⟨(H.js n j hn).1, fun h => hout _ _ _ ((N.js n j hn).2.1 h) (by omega)⟩)
  have hR := places_Q (ρ := gO O) (f := f') (g := g') (r := JJ.r2) (b := 1002) (d := (8, 0)) (k := .i64) (done := (nmD sh1 p1 6 ++ nmD sh2 p2 8).map fun p => p.1) (by simp [nmD]) JS 0 (fun n j hn => by
    rw [Nat.zero_add]
    exact ⟨(H.rs n j hn).1, fun h => hout _ _ _ ((N.js n j hn).2.2.2 h) (by omega)⟩)
  have hj : (10, 0) ∉ (nmD sh1 p1 6 ++ nmD sh2 p2 8).map fun p => p.1 := by
    intro hm
    obtain ⟨p, hp, e0⟩ := List.mem_map.1 hm
    have e := hnf p (by simp only [allN, List.mem_append] at hp ⊢; exact .inl (.inl hp))
    rw [e0, N.i] at e
    have hc : ∀ p ∈ (nmD sh1 p1 6 ++ nmD sh2 p2 8 : List (Id × Id)), p.2.1 < 10 := by
      cases sh1 <;> cases sh2 <;> simp [nmD, nmR]
    have := hc p hp
    rw [e] at this
    simp at this
  have hj' : (11, 0) ∉ (nmD sh1 p1 6 ++ nmD sh2 p2 8).map fun p => p.1 := by
    intro hm
    obtain ⟨p, hp, e0⟩ := List.mem_map.1 hm
    have e := hnf p (by simp only [allN, List.mem_append] at hp ⊢; exact .inl (.inl hp))
    rw [e0, N.j] at e
    have hc : ∀ p ∈ (nmD sh1 p1 6 ++ nmD sh2 p2 8 : List (Id × Id)), p.2.1 < 10 := by
      cases sh1 <;> cases sh2 <;> simp [nmD, nmR]
    have := hc p hp
    rw [e] at this
    simp at this
  have hnl : nameL 10 0 [(11, 0)] (nameL 9 0 [(10, 0)] (nmD sh1 p1 6 ++ nmD sh2 p2 8)) = (nmD sh1 p1 6 ++ nmD sh2 p2 8) ++ [((10, 0), (10, 0)), ((11, 0), (11, 0))] := by
    have h1 : ((nmD sh1 p1 6 ++ nmD sh2 p2 8).any fun p => p.1 == (10, 0)) = false := by
      apply Bool.eq_false_iff.2
      intro h
      obtain ⟨p, hp, e⟩ := List.any_eq_true.1 h
      exact hj (List.mem_map.2 ⟨p, hp, LawfulBEq.eq_of_beq e⟩)
    have h2 : ((nmD sh1 p1 6 ++ nmD sh2 p2 8).any fun p => p.1 == (11, 0)) = false := by
      apply Bool.eq_false_iff.2
      intro h
      obtain ⟨p, hp, e⟩ := List.any_eq_true.1 h
      exact hj' (List.mem_map.2 ⟨p, hp, LawfulBEq.eq_of_beq e⟩)
    generalize nmD sh1 p1 6 ++ nmD sh2 p2 8 = L at *
    have h3 : (L ++ [((10, 0), (10, 0))]).any (fun p => p.1 == (11, 0)) = false := by rw [List.any_append, h2]; rfl
    simp only [nameL, h1, h3, Nat.reduceBEq, Bool.or_false, Bool.false_eq_true, if_false, Nat.reduceAdd, List.append_assoc, List.cons_append, List.nil_append]
  have hE : elemsR (gO O) (.rsl (10, 0) vj 1 0 n) = refsQ f 0 JS := by simp only [elemsR, H.j0]
  have hE' : elemsR (gO O) (.rsl (11, 0) vr 1 0 n) = refsQ f' 0 JS := by simp only [elemsR, H.r0]
  have g9 : gE ((0, .dat x0) :: (1, .dat x1) :: (5, .ref (6, 0) 0) :: (7, .ref (8, 0) 0) :: (9, .rsl (10, 0) vj 1 0 n) :: (10, .rsl (11, 0) vr 1 0 n) :: rest.map (fun q => (q.1, AVal.dat q.2))) 9 = .rsl (10, 0) vj 1 0 n := by simp
  have g10 : gE ((0, .dat x0) :: (1, .dat x1) :: (5, .ref (6, 0) 0) :: (7, .ref (8, 0) 0) :: (9, .rsl (10, 0) vj 1 0 n) :: (10, .rsl (11, 0) vr 1 0 n) :: rest.map (fun q => (q.1, AVal.dat q.2))) 10 = .rsl (11, 0) vr 1 0 n := by simp
  have hids : AVal.idsL ((rest.map (fun q => (q.1, AVal.dat q.2))).map (·.2)) = [] := by
    clear hr hnm g9 g10
    induction rest with
    | nil => rfl
    | cons q r ih => simp only [List.map_cons, AVal.idsL, AVal.ids, ih, List.append_nil]
  have hren : ∀ F, (rest.map (fun q => (q.1, AVal.dat q.2))).map (fun p => (p.1, p.2.ren F)) = rest.map (fun q => (q.1, AVal.dat q.2)) := by
    intro F
    rw [List.map_map]
    rfl
  have hca : closedB (gO O) (O.map (·.1)) ((0, .dat x0) :: (1, .dat x1) :: (5, .ref (6, 0) 0) :: (7, .ref (8, 0) 0) :: (9, .rsl (10, 0) vj 1 0 n) :: (10, .rsl (11, 0) vr 1 0 n) :: rest.map (fun q => (q.1, AVal.dat q.2))) ((allN sh1 sh2 p1 p2 JS f g f' g').map fun p => p.1) = true := by
    simp only [closedB, Bool.and_eq_true, List.all_eq_true]
    refine ⟨⟨fun i hi => ?_, fun i hi => ?_⟩, fun i hi => ?_⟩
    · obtain ⟨p, hp, rfl⟩ := List.mem_map.1 hi
      have := H.nz p hp
      simp [this]
    · simp only [List.map_cons, AVal.idsL, AVal.ids, hids, List.append_nil, List.nil_append, List.cons_append, List.mem_cons, List.not_mem_nil, or_false] at hi
      rcases hi with rfl | rfl | rfl | rfl <;> simp [allN, nmD]
    · obtain ⟨p, hp, rfl⟩ := List.mem_map.1 hi
      obtain ⟨o, ho, hc⟩ := hcl p hp
      simp only [ho, List.all_eq_true]
      intro j hj
      simpa using hc j hj
  have hfx : ((allN sh1 sh2 p1 p2 JS f g f' g').map fun p => p.1).all (fun i => i.1 != 0 || lookN (allN sh1 sh2 p1 p2 JS f g f' g') i == i) = true := by
    rw [List.all_eq_true]
    intro i hi
    obtain ⟨p, hp, rfl⟩ := List.mem_map.1 hi
    obtain ⟨o, ho, _⟩ := hcl p hp
    have := H.nz _ (gO_mem ho)
    simp at this
    simp [this]
  have hst : (allN sh1 sh2 p1 p2 JS f g f' g').map (fun p => (p.2, ((gO O p.1).getD default).ren (lookN (allN sh1 sh2 p1 p2 JS f g f' g')))) = HS v1 v2 du pe cr op sh1 sh2 vj vr JS := by
    have L : ∀ p ∈ allN sh1 sh2 p1 p2 JS f g f' g', lookN (allN sh1 sh2 p1 p2 JS f g f' g') p.1 = p.2 := hlk
    generalize hF : lookN (allN sh1 sh2 p1 p2 JS f g f' g') = F at *
    have l60 : F (6, 0) = (6, 0) := L ((6, 0), (6, 0)) (by simp [allN, nmD])
    have l61 : F (6, 1) = (6, 1) := L ((6, 1), (6, 1)) (by simp [allN, nmD])
    have l80 : F (8, 0) = (8, 0) := L ((8, 0), (8, 0)) (by simp [allN, nmD])
    have l81 : F (8, 1) = (8, 1) := L ((8, 1), (8, 1)) (by simp [allN, nmD])
    have lp1 : ∀ w, sh1 = some w → F p1 = (6, 2) := by rintro w rfl; exact L (p1, (6, 2)) (by simp [allN, nmD, nmR])
    have lp2 : ∀ w, sh2 = some w → F p2 = (8, 2) := by rintro w rfl; exact L (p2, (8, 2)) (by simp [allN, nmD, nmR])
    have lf : ∀ n j, JS[n]? = some (some j) → F (f n) = (1000, n) := fun n j hn => L (f n, (1000, n)) (by
      simp only [allN, List.mem_append]; exact .inr (.inl ((nmQ_mem JS 0 _).2 ⟨n, j, hn, .inl (by simp)⟩)))
    have lf' : ∀ n j, JS[n]? = some (some j) → F (f' n) = (1002, n) := fun n j hn => L (f' n, (1002, n)) (by
      simp only [allN, List.mem_append]; exact .inr (.inr ((nmQ_mem JS 0 _).2 ⟨n, j, hn, .inl (by simp)⟩)))
    have lg : ∀ n j, JS[n]? = some (some j) → j.r1 ≠ none → F (g n) = (1001, n) := fun n j hn h => L (g n, (1001, n)) (by
      simp only [allN, List.mem_append]; exact .inr (.inl ((nmQ_mem JS 0 _).2 ⟨n, j, hn, .inr ⟨h, by simp⟩⟩)))
    have lg' : ∀ n j, JS[n]? = some (some j) → j.r2 ≠ none → F (g' n) = (1003, n) := fun n j hn h => L (g' n, (1003, n)) (by
      simp only [allN, List.mem_append]; exact .inr (.inr ((nmQ_mem JS 0 _).2 ⟨n, j, hn, .inr ⟨h, by simp⟩⟩)))
    have mP := map_Q (ρ := gO O) (f := f) (g := g) (r := JJ.r1) (b := 1000) (d := (6, 0)) (k := .u32) l60 JS 0 (fun n j hn => by
      rw [Nat.zero_add]
      exact ⟨(H.js n j hn).1, fun w hw => ⟨(H.js n j hn).2 w hw, lg n j hn (by simp [hw])⟩⟩)
    have mR := map_Q (ρ := gO O) (f := f') (g := g') (r := JJ.r2) (b := 1002) (d := (8, 0)) (k := .i64) l80 JS 0 (fun n j hn => by
      rw [Nat.zero_add]
      exact ⟨(H.rs n j hn).1, fun w hw => ⟨(H.rs n j hn).2 w hw, lg' n j hn (by simp [hw])⟩⟩)
    have rP := refsQ_ren (f := f) (F := F) (b := 1000) JS 0 (fun n j hn => by rw [Nat.zero_add]; exact lf n j hn)
    have rR := refsQ_ren (f := f') (F := F) (b := 1002) JS 0 (fun n j hn => by rw [Nat.zero_add]; exact lf' n j hn)
    have hD0 := H.d0; have hD1 := H.d1; have hD2 := H.d2; have hE0 := H.e0; have hE1 := H.e1; have hE2 := H.e2; have hJ0 := H.j0; have hR0 := H.r0
    simp only [allN, List.map_append, mP, mR]
    cases sh1 with
    | none =>
      cases sh2 with
      | none => simp [nmD, nmR, hD0, hD1, hE0, hE1, hJ0, hR0, HS, tlQ, psQ, dskB, pvC, rP, rR, l60, l61, l80, l81]
      | some w2 => simp [nmD, nmR, hD0, hD1, hE0, hE1, hJ0, hR0, HS, tlQ, psQ, dskB, pvC, rP, rR, l60, l61, l80, l81, hE2, lp2]
    | some w1 =>
      cases sh2 with
      | none => simp [nmD, nmR, hD0, hD1, hE0, hE1, hJ0, hR0, HS, tlQ, psQ, dskB, pvC, rP, rR, l60, l61, l80, l81, hD2, lp1]
      | some w2 => simp [nmD, nmR, hD0, hD1, hE0, hE1, hJ0, hR0, HS, tlQ, psQ, dskB, pvC, rP, rR, l60, l61, l80, l81, hD2, lp1, hE2, lp2]
  simp only [renE, hnm, g9, g10, hE, hE', AVal.ids, hP, hR, hnl]
  have hfold : (nmD sh1 p1 6 ++ nmD sh2 p2 8 ++ [((10, 0), (10, 0)), ((11, 0), (11, 0))] ++ (nmQ f g JJ.r1 1000 0 JS ++ nmQ f' g' JJ.r2 1002 0 JS) : List (Id × Id)) = allN sh1 sh2 p1 p2 JS f g f' g' := rfl
  have l60 : lookN (allN sh1 sh2 p1 p2 JS f g f' g') (6, 0) = (6, 0) := hlk ((6, 0), (6, 0)) (by simp [allN, nmD])
  have l80 : lookN (allN sh1 sh2 p1 p2 JS f g f' g') (8, 0) = (8, 0) := hlk ((8, 0), (8, 0)) (by simp [allN, nmD])
  have l10 : lookN (allN sh1 sh2 p1 p2 JS f g f' g') (10, 0) = (10, 0) := hlk ((10, 0), (10, 0)) (by simp [allN])
  have l11 : lookN (allN sh1 sh2 p1 p2 JS f g f' g') (11, 0) = (11, 0) := hlk ((11, 0), (11, 0)) (by simp [allN])
  rw [hfold, hga]
  simp only [hmm, hnd, hfx, hca, and_self, if_true]
  rw [← hmm, hzp, hst]
  simp only [List.map_cons, AVal.ren, l60, l80, l10, l11, hren]
end
end Go.Am

/- The law on acts: which journal is used; the store's looks. -/
set_option linter.unusedVariables false
set_option linter.unusedSimpArgs false
set_option maxRecDepth 10000
namespace Go.Am
open Go.Proofs

theorem gO_pO' : ∀ (s : Store) (i : Id) (o : Obj) (x : Id), gO (pO s i o) x = if i = x then some o else gO s x
  | [], i, o, x => by simp [pO, gO]
  | (j, o') :: r, i, o, x => by
    simp only [pO]
    split
    · rename_i e
      subst e
      simp only [gO]
      split <;> rfl
    · rename_i e
      simp only [gO, gO_pO' r i o x]
      split
      · rename_i e2
        subst e2
        rw [if_neg (fun h => e h.symm)]
      · rfl

theorem nz_pO : ∀ {s : Store} {i : Id} {o : Obj}, (∀ p ∈ s, p.1.1 ≠ 0) → i.1 ≠ 0 → ∀ p ∈ pO s i o, p.1.1 ≠ 0
  | [], i, o, h, hi, p, hp => by simp [pO] at hp; subst hp; exact hi
  | (j, o') :: r, i, o, h, hi, p, hp => by
    simp only [pO] at hp
    split at hp
    · rcases List.mem_cons.1 hp with rfl | hp
      · exact hi
      · exact h p (by simp [hp])
    · rcases List.mem_cons.1 hp with rfl | hp
      · exact h _ (by simp)
      · exact nz_pO (fun p hp => h p (by simp [hp])) hi p hp

theorem stQ_key {d : Id} {k : IntKind} {r : JJ → Option Nat} {b : Nat} : ∀ (JS : JL) (i : Nat), ∀ p ∈ stQ d k r b i JS, (p.1.1 = b ∨ p.1.1 = b + 1) ∧ i ≤ p.1.2
  | [], i, p, h => by simp [stQ] at h
  | none :: l, i, p, h => by
    have := stQ_key l (i + 1) p h
    exact ⟨this.1, by omega⟩
  | some j :: l, i, p, h => by
    simp only [stQ, List.mem_cons, List.mem_append] at h
    rcases h with rfl | h | h
    · exact ⟨.inl rfl, Nat.le_refl _⟩
    · cases hr : r j with
      | none => simp [hr, recS] at h
      | some w => simp [hr, recS] at h; subst h; exact ⟨.inr rfl, Nat.le_refl _⟩
    · have := stQ_key l (i + 1) p h
      exact ⟨this.1, by omega⟩

theorem gO_none {s : Store} {x : Id} (h : ∀ p ∈ s, p.1 ≠ x) : gO s x = none := by
  induction s with
  | nil => rfl
  | cons p r ih =>
    obtain ⟨i, o⟩ := p
    simp only [gO]
    rw [if_neg (h (i, o) (by simp)), ih (fun q hq => h q (by simp [hq]))]

theorem gO_append (s t : Store) (x : Id) : gO (s ++ t) x = match gO s x with
    | some o => some o
    | none => gO t x := by
  induction s with
  | nil => rfl
  | cons p r ih =>
    obtain ⟨i, o⟩ := p
    simp only [List.cons_append, gO]
    split
    · rfl
    · exact ih

theorem gO_stQ {d : Id} {k : IntKind} {r : JJ → Option Nat} {b : Nat} : ∀ (JS : JL) (i n : Nat) (j : JJ), JS[n]? = some (some j) →
    gO (stQ d k r b i JS) (b, i + n) = some (bxG d k (b + 1, i + n) (r j) j) ∧ ∀ w, r j = some w → gO (stQ d k r b i JS) (b + 1, i + n) = some (.arr 1 w false (j.rs.map Bs))
  | [], i, n, j, h => by simp at h
  | none :: l, i, n, j, h => by
    match n, h with
    | n + 1, h =>
      have := gO_stQ (d := d) (k := k) (r := r) (b := b) l (i + 1) n j (by simpa using h)
      rwa [show i + 1 + n = i + (n + 1) from by omega] at this
  | some j0 :: l, i, n, j, h => by
    match n, h with
    | 0, h =>
      simp at h; subst h
      simp only [stQ, Nat.add_zero, gO, if_true]
      refine ⟨trivial, fun w hw => ?_⟩
      have hne : ¬ ((b, i) : Id) = (b + 1, i) := fun e => by have := congrArg Prod.fst e; simp at this
      rw [if_neg hne, hw]
      simp [recS, gO]
    | n + 1, h =>
      have ih := gO_stQ (d := d) (k := k) (r := r) (b := b) l (i + 1) n j (by simpa using h)
      rw [show i + 1 + n = i + (n + 1) from by omega] at ih
      have hne1 : ∀ c c', ¬ ((c, i) : Id) = (c', i + (n + 1)) := fun c c' e => by have := congrArg Prod.snd e; simp at this
      have hrec : ∀ c, gO (recS (b + 1, i) j0.rs (r j0)) (c, i + (n + 1)) = none := by
        intro c
        cases r j0 with
        | none => rfl
        | some w => simp only [recS, gO]; rw [if_neg (hne1 _ _)]
      simp only [stQ, gO]
      rw [if_neg (hne1 _ _), if_neg (hne1 _ _), gO_append, gO_append, hrec, hrec]
      exact ih

theorem tlQ_low (JS : JL) {a c : Nat} (h : a < 1000) : gO (tlQ JS) (a, c) = none := by
  refine gO_none fun p hp e => ?_
  simp only [tlQ, List.mem_append] at hp
  rcases hp with hp | hp
  · have := (stQ_key JS 0 p hp).1; rw [e] at this; simp at this; omega
  · have := (stQ_key JS 0 p hp).1; rw [e] at this; simp at this; omega

theorem tlQ_get {JS : JL} {n : Nat} {j : JJ} (h : JS[n]? = some (some j)) :
    gO (tlQ JS) (1000, n) = some (bxG (6, 0) .u32 (1001, n) j.r1 j) ∧ (∀ w, j.r1 = some w → gO (tlQ JS) (1001, n) = some (.arr 1 w false (j.rs.map Bs))) ∧
    gO (tlQ JS) (1002, n) = some (bxG (8, 0) .i64 (1003, n) j.r2 j) ∧ (∀ w, j.r2 = some w → gO (tlQ JS) (1003, n) = some (.arr 1 w false (j.rs.map Bs))) := by
  have h1 := gO_stQ (d := (6, 0)) (k := .u32) (r := JJ.r1) (b := 1000) JS 0 n j h
  have h2 := gO_stQ (d := (8, 0)) (k := .i64) (r := JJ.r2) (b := 1002) JS 0 n j h
  rw [Nat.zero_add] at h1 h2
  have hn : ∀ c, 1002 ≤ c → gO (stQ (6, 0) .u32 JJ.r1 1000 0 JS) (c, n) = none := fun c hc => gO_none fun p hp e => by
    have := (stQ_key JS 0 p hp).1; rw [e] at this; simp at this; omega
  simp only [tlQ, gO_append]
  refine ⟨by rw [h1.1], fun w hw => by rw [h1.2 w hw], ?_, fun w hw => ?_⟩
  · rw [hn _ (by omega)]; exact h2.1
  · rw [hn _ (by omega)]; exact h2.2 w hw

theorem tlQ_nz (JS : JL) : ∀ p ∈ tlQ JS, p.1.1 ≠ 0 := by
  intro p hp
  simp only [tlQ, List.mem_append] at hp
  rcases hp with hp | hp
  · have := (stQ_key JS 0 p hp).1; omega
  · have := (stQ_key JS 0 p hp).1; omega

theorem HS_nz {v1 v2 : Nat} {du : List (List UInt8)} {pe : Pe} {cr op : Int} {sh1 sh2 : Option Nat} {vj vr : Nat} {JS : JL} : ∀ p ∈ HS v1 v2 du pe cr op sh1 sh2 vj vr JS, p.1.1 ≠ 0 := by
  intro p hp
  have ht := tlQ_nz JS p
  cases sh1 <;> cases sh2 <;> simp only [HS, psQ, List.mem_cons, List.mem_append, List.nil_append, List.cons_append] at hp
  · rcases hp with rfl | rfl | rfl | rfl | rfl | rfl | hp <;> first | exact ht hp | simp
  · rcases hp with rfl | rfl | rfl | rfl | rfl | rfl | rfl | hp <;> first | exact ht hp | simp
  · rcases hp with rfl | rfl | rfl | rfl | rfl | rfl | rfl | hp <;> first | exact ht hp | simp
  · rcases hp with rfl | rfl | rfl | rfl | rfl | rfl | rfl | rfl | hp <;> first | exact ht hp | simp

theorem HS_lk {v1 v2 : Nat} {du : List (List UInt8)} {pe : Pe} {cr op : Int} {sh1 sh2 : Option Nat} {vj vr : Nat} {JS : JL} :
    Lk (HS v1 v2 du pe cr op sh1 sh2 vj vr JS) v1 v2 du pe cr op sh1 sh2 (6, 2) (8, 2) vj vr JS (fun n => (1000, n)) (fun n => (1001, n)) (fun n => (1002, n)) (fun n => (1003, n)) := by
  have hb : ∀ x : Id, 1000 ≤ x.1 → gO (HS v1 v2 du pe cr op sh1 sh2 vj vr JS) x = gO (tlQ JS) x := by
    rintro ⟨a, c⟩ hx
    have h6 : ¬ 6 = a := by simp at hx; omega
    have h8 : ¬ 8 = a := by simp at hx; omega
    have h10 : ¬ 10 = a := by simp at hx; omega
    have h11 : ¬ 11 = a := by simp at hx; omega
    cases sh1 <;> cases sh2 <;> simp [HS, psQ, h6, h8, h10, h11]
  refine ⟨HS_nz, ?_, ?_, ?_, ?_, ?_, ?_, ?_, ?_, fun n j hn => ?_, fun n j hn => ?_, .inl rfl, .inl rfl⟩
  · simp [HS]
  · simp [HS]
  · rintro w rfl; simp [HS, psQ]
  · cases sh1 <;> simp [HS, psQ]
  · cases sh1 <;> simp [HS, psQ]
  · rintro w rfl; cases sh1 <;> simp [HS, psQ]
  · cases sh1 <;> cases sh2 <;> simp [HS, psQ]
  · cases sh1 <;> cases sh2 <;> simp [HS, psQ]
  · obtain ⟨a, b, c, d⟩ := tlQ_get hn
    exact ⟨by rw [hb _ (by simp)]; exact a, fun w hw => by rw [hb _ (by simp)]; exact b w hw⟩
  · obtain ⟨a, b, c, d⟩ := tlQ_get hn
    exact ⟨by rw [hb _ (by simp)]; exact c, fun w hw => by rw [hb _ (by simp)]; exact d w hw⟩

/-- the place of the journal that an act uses -/
def atI (n : Nat) (I : Int) : Int := min (max I (-1)) ((n : Int) - 1)

theorem at_loop (x0 x1 : Dat) (a5 a7 a9 : AVal) (v : Nat) (n : Nat) (i : Nat) (K I : Int) (b : List UInt8) (keep : List Int) (O : Store) (hn : n ≤ 100) (hO : gO O (13, 0) = some (.box [.dat (.int .i64 K), .dat (.int .i64 I), .dat (Bs b), .dat (.sl (keep.map I64))])) : ∀ (m k : Nat) (s : St), k + m = n → (k : Int) - 1 ≤ max I (-1) →
    hd [0, 1, 5, 7, 9, 10, 11, 12, 13, 14] [] s = some ⟨[(0, .dat x0), (1, .dat x1), (5, a5), (7, a7), (9, .rsl (10, 0) v 1 0 n), (10, a9), (11, .dat (.int .i64 i)), (12, .ref (13, 0) 0), (13, .dat (.int .i64 ((k : Int) - 1))), (14, .dat (.int .i64 k))], O⟩ →
    Ev (loopLim (exec KJ l5_0) s) fun q => q.1 = .exit 2 ∧ hd [0, 1, 5, 7, 9, 10, 11, 12, 13] [] q.2 = some ⟨[(0, .dat x0), (1, .dat x1), (5, a5), (7, a7), (9, .rsl (10, 0) v 1 0 n), (10, a9), (11, .dat (.int .i64 i)), (12, .ref (13, 0) 0), (13, .dat (.int .i64 (atI n I)))], O⟩ := by
  intro m
  induction m with
  | zero =>
    intro k s hk hI hs
    apply ev_loop
    have hkn : k = n := by omega
    subst hkn
    have he : atI k I = (k : Int) - 1 := by unfold atI; omega
    rw [he]
    simp [hs, hO]
  | succ m ih =>
    intro k s hk hI hs
    apply ev_loop
    have h1 : (k : Int) < n := by omega
    have h1' : k < n := by omega
    have hx : Ix k := by unfold Ix; omega
    have ih2 := ih (k + 1)
    have e0 : ((k + 1 : Nat) : Int) - 1 = k := by omega
    rw [e0] at ih2
    by_cases h2 : (k : Int) ≤ I
    · simp only [Int.natCast_add, Int.cast_ofNat_Int] at ih2
      generalize hQ : (fun q : AEx × St => q.1 = AEx.exit 2 ∧ hd [0, 1, 5, 7, 9, 10, 11, 12, 13] [] q.2 = _) = Q at ih2 ⊢
      simp [hs, hO, h1, h1', h2, hx]
      exact Ev.mono (ih2 _ (by omega) (by omega) (by simp)) (fun _ h => h)
    · have he : atI n I = (k : Int) - 1 := by unfold atI; omega
      rw [he]
      simp [hs, hO, h1, h1', h2, hx]
end Go.Am

/- The law on acts: a disk's acts. -/
set_option linter.unusedVariables false
set_option linter.unusedSimpArgs false
set_option maxRecDepth 10000
namespace Go.Am
open Go.Proofs

attribute [local simp] gO_pO tlQ_low

/-- a journal is in order -/
structure JOK (N i : Nat) (j : JJ) : Prop where
  k1 : rcK j.rs j.r1
  k2 : rcK j.rs j.r2
  len : j.rs.length ≤ 4096 + i
  small : ∀ d ∈ j.rs, d.length ≤ 1000000
  next : j.next ≤ N
  ep : j.ep < 4294967296

/-- the slots at the law's loop -/
def envA (x0 x1 : Dat) (vj vr n : Nat) (i : Nat) (rest : Env) : Env :=
  (0, .dat x0) :: (1, .dat x1) :: (5, .ref (6, 0) 0) :: (7, .ref (8, 0) 0) :: (9, .rsl (10, 0) vj 1 0 n) :: (10, .rsl (11, 0) vr 1 0 n) :: (11, .dat (.int .i64 i)) :: rest

def boxA (K I : Int) (b : List UInt8) (keep : List Int) : Obj := .box [.dat (.int .i64 K), .dat (.int .i64 I), .dat (Bs b), .dat (.sl (keep.map I64))]

def swP (x0 x1 : Dat) (i : Nat) (atv : Int) (v1 v2 : Nat) (du : List (List UInt8)) (pe : Pe) (cr op : Int) (sh1 sh2 : Option Nat) (vj vr : Nat) (JS : JL) (q : AEx × St) : Prop :=
  q.1 = .normal ∧ hd [0, 1, 5, 7, 9, 10, 11, 13] [1000000, 1000, 9, 10, 5, 7] q.2 = some ⟨envA x0 x1 vj vr JS.length i [(13, .dat (.int .i64 atv))], HS v1 v2 du pe cr op sh1 sh2 vj vr JS⟩

theorem hd_ren {live : List Nat} {env : Env} {O : Store} {s' : St} {env' : Env} (he : restrict live env = env') (h : renE [1000, 9, 10, 5, 7] ⟨env', O⟩ = some s') : hd live [1000000, 1000, 9, 10, 5, 7] ⟨env, O⟩ = some s' := by
  rw [hd_eq, he]
  exact h

abbrev F0 : Nat → Id := fun n => (1000, n)
abbrev F1 : Nat → Id := fun n => (1001, n)
abbrev F2 : Nat → Id := fun n => (1002, n)
abbrev F3 : Nat → Id := fun n => (1003, n)
def nfD (x : Id) : Id := if x = (89, 0) then (6, 2) else if x = (96, 0) then (8, 2) else x
theorem nf_std {p1 p2 : Id} (h1 : p1 = (6, 2) ∨ p1 = (89, 0)) (h2 : p2 = (8, 2) ∨ p2 = (96, 0)) (JS : JL) : Nf nfD p1 p2 JS F0 F1 F2 F3 := by
  refine ⟨rfl, rfl, ?_, rfl, rfl, ?_, rfl, rfl, fun n j hn => ?_⟩
  · rcases h1 with rfl | rfl <;> rfl
  · rcases h2 with rfl | rfl <;> rfl
  · simp [nfD]
theorem nz_cons {s : Store} {i : Id} {o : Obj} (h : ∀ p ∈ s, p.1.1 ≠ 0) (hi : i.1 ≠ 0) : ∀ p ∈ (i, o) :: s, p.1.1 ≠ 0 := by
  intro p hp
  rcases List.mem_cons.1 hp with rfl | hp
  · exact hi
  · exact h p hp

section
variable {x0 x1 : Dat} {i : Nat} {atv K I : Int} {b : List UInt8} {keep : List Int} {v1 v2 : Nat} {du : List (List UInt8)} {pe : Pe} {cr op : Int} {sh1 sh2 : Option Nat} {vj vr : Nat} {JS : JL} {N m : Nat}

theorem sw_sync (hD : DOK N du pe m) (hm : m < 1000000) (hs1 : shOK sh1 pe) (hs2 : shOK sh2 pe) {s : St}
    (hs : hd [0, 1, 5, 7, 9, 10, 11, 12, 13, 79] [] s = some ⟨envA x0 x1 vj vr JS.length i [(12, .ref (13, 0) 0), (13, .dat (.int .i64 atv)), (79, .dat (.int .i64 2))], pO (HS v1 v2 du pe cr op sh1 sh2 vj vr JS) (13, 0) (boxA 2 I b keep)⟩) :
    Ev (exec KJ b5_4 s) (swP x0 x1 i atv v1 v2 (syncS pe du) [] cr op none none vj vr JS) := by
  have q1 := sync_c (v := v1) (cr := cr) (op := op) hD hm hs1
  have q2 := rsync_c (v := v2) (cr := cr) (op := op) hD hm hs2
  have hSl : (syncS pe du).length = du.length := syncS_len pe du
  generalize hS : syncS pe du = S at *
  generalize hQ : swP x0 x1 i atv v1 v2 S [] cr op none none vj vr JS = Q
  have ht := @tlQ_get JS
  have hz := tlQ_nz JS
  rcases hs1 with ⟨rfl, rfl⟩ | ⟨w1, rfl, g1⟩ <;> rcases hs2 with ⟨rfl, h0⟩ | ⟨w2, rfl, g2⟩
  · simp [dskC, dsk, dskB, pvC, poC] at q1 q2
    simp [HS, psQ, pO, dskB, pvC, envA, boxA] at hs
    rw [b5_4e]
    simp [hs, q1, q2]
    rw [← hQ]
    refine ⟨rfl, hd_ren rfl (renJ (f := F0) (g := F1) (f' := F2) (g' := F3) (nf := nfD) (p1 := (6, 2)) (p2 := (8, 2)) (rest := [(11, .int .i64 i), (13, .int .i64 atv)]) ?_ (nf_std (.inl rfl) (.inl rfl) JS) x0 x1 _ (by simp))⟩
    exact ⟨by repeat (first | exact hz | refine nz_cons ?_ (by decide) | refine nz_pO ?_ (by decide)), by simp [dskB, pvC], by simp, by simp, by simp [dskB, pvC], by simp, by simp, by simp, by simp,
      fun n j hn => ⟨by simp [(ht hn).1], fun w hw => by simp [(ht hn).2.1 w hw]⟩, fun n j hn => ⟨by simp [(ht hn).2.2.1], fun w hw => by simp [(ht hn).2.2.2 w hw]⟩, .inl rfl, .inl rfl⟩
  · exact absurd rfl g2
  · exact absurd h0 g1
  · simp [dskC, dsk, dskB, pvC, poC] at q1 q2
    simp [HS, psQ, pO, dskB, pvC, envA, boxA] at hs
    rw [b5_4e]
    simp [hs, q1, q2]
    rw [← hQ]
    refine ⟨rfl, hd_ren rfl (renJ (f := F0) (g := F1) (f' := F2) (g' := F3) (nf := nfD) (p1 := (6, 2)) (p2 := (8, 2)) (rest := [(11, .int .i64 i), (13, .int .i64 atv)]) ?_ (nf_std (.inl rfl) (.inl rfl) JS) x0 x1 _ (by simp))⟩
    exact ⟨by repeat (first | exact hz | refine nz_cons ?_ (by decide) | refine nz_pO ?_ (by decide)), by simp [dskB, pvC], by simp, by simp, by simp [dskB, pvC], by simp, by simp, by simp, by simp,
      fun n j hn => ⟨by simp [(ht hn).1], fun w hw => by simp [(ht hn).2.1 w hw]⟩, fun n j hn => ⟨by simp [(ht hn).2.2.1], fun w hw => by simp [(ht hn).2.2.2 w hw]⟩, .inl rfl, .inl rfl⟩
end
end Go.Am

/- The law on acts: writes, crashes, and acts that do nothing. -/
set_option linter.unusedVariables false
set_option linter.unusedSimpArgs false
set_option maxRecDepth 10000
namespace Go.Am
open Go.Proofs

attribute [local simp] gO_pO tlQ_low

section
variable {x0 x1 : Dat} {i : Nat} {atv K I : Int} {b : List UInt8} {keep : List Int} {v1 v2 : Nat} {du : List (List UInt8)} {pe : Pe} {cr op : Int} {sh1 sh2 : Option Nat} {vj vr : Nat} {JS : JL} {N m : Nat}

def secB64 (b : List UInt8) : List UInt8 := b.take 64 ++ List.replicate (64 - b.length) 0

theorem sw_other (h0 : ¬ K = 0) (h2 : ¬ K = 2) (h3 : ¬ K = 3) (h4 : ¬ K = 4) (h5 : ¬ K = 5) (hs1 : shOK sh1 pe) (hs2 : shOK sh2 pe) {s : St}
    (hs : hd [0, 1, 5, 7, 9, 10, 11, 12, 13, 79] [] s = some ⟨envA x0 x1 vj vr JS.length i [(12, .ref (13, 0) 0), (13, .dat (.int .i64 atv)), (79, .dat (.int .i64 K))], pO (HS v1 v2 du pe cr op sh1 sh2 vj vr JS) (13, 0) (boxA K I b keep)⟩) :
    Ev (exec KJ b5_4 s) (swP x0 x1 i atv v1 v2 du pe cr op sh1 sh2 vj vr JS) := by
  generalize hQ : swP x0 x1 i atv v1 v2 du pe cr op sh1 sh2 vj vr JS = Q
  have ht := @tlQ_get JS
  have hz := tlQ_nz JS
  rcases hs1 with ⟨rfl, rfl⟩ | ⟨w1, rfl, g1⟩ <;> rcases hs2 with ⟨rfl, h9⟩ | ⟨w2, rfl, g2⟩
  · simp [HS, psQ, pO, dskB, pvC, envA, boxA] at hs
    rw [b5_4e]
    simp [hs, h0, h2, h3, h4, h5]
    rw [← hQ]
    refine ⟨rfl, hd_ren rfl (renJ (f := F0) (g := F1) (f' := F2) (g' := F3) (nf := nfD) (p1 := (6, 2)) (p2 := (8, 2)) (rest := [(11, .int .i64 i), (13, .int .i64 atv)]) ?_ (nf_std (.inl rfl) (.inl rfl) JS) x0 x1 _ (by simp))⟩
    exact ⟨by repeat (first | exact hz | refine nz_cons ?_ (by decide) | refine nz_pO ?_ (by decide)), by simp [dskB, pvC], by simp, by simp, by simp [dskB, pvC], by simp, by simp, by simp, by simp,
      fun n j hn => ⟨by simp [(ht hn).1], fun w hw => by simp [(ht hn).2.1 w hw]⟩, fun n j hn => ⟨by simp [(ht hn).2.2.1], fun w hw => by simp [(ht hn).2.2.2 w hw]⟩, .inl rfl, .inl rfl⟩
  · exact absurd rfl g2
  · exact absurd h9 g1
  · simp [HS, psQ, pO, dskB, pvC, envA, boxA] at hs
    rw [b5_4e]
    simp [hs, h0, h2, h3, h4, h5]
    rw [← hQ]
    refine ⟨rfl, hd_ren rfl (renJ (f := F0) (g := F1) (f' := F2) (g' := F3) (nf := nfD) (p1 := (6, 2)) (p2 := (8, 2)) (rest := [(11, .int .i64 i), (13, .int .i64 atv)]) ?_ (nf_std (.inl rfl) (.inl rfl) JS) x0 x1 _ (by simp))⟩
    exact ⟨by repeat (first | exact hz | refine nz_cons ?_ (by decide) | refine nz_pO ?_ (by decide)), by simp [dskB, pvC], by simp, by simp, by simp [dskB, pvC], by simp, by simp, by simp, by simp,
      fun n j hn => ⟨by simp [(ht hn).1], fun w hw => by simp [(ht hn).2.1 w hw]⟩, fun n j hn => ⟨by simp [(ht hn).2.2.1], fun w hw => by simp [(ht hn).2.2.2 w hw]⟩, .inl rfl, .inl rfl⟩

theorem sw_crash (hD : DOK N du pe m) (hm : m < 1000000) (hs1 : shOK sh1 pe) (hs2 : shOK sh2 pe) (hk : keep.length < 1000000) (c1 : 0 ≤ cr) (c2 : cr < 1000000) {s : St}
    (hs : hd [0, 1, 5, 7, 9, 10, 11, 12, 13, 79] [] s = some ⟨envA x0 x1 vj vr JS.length i [(12, .ref (13, 0) 0), (13, .dat (.int .i64 atv)), (79, .dat (.int .i64 3))], pO (HS v1 v2 du pe cr op sh1 sh2 vj vr JS) (13, 0) (boxA 3 I b keep)⟩) :
    Ev (exec KJ b5_4 s) fun q => (okK keep pe.length = true ∧ swP x0 x1 i atv v1 v2 (crashW keep 0 pe du) [] (cr + 1) op none none vj vr JS q) ∨ (okK keep pe.length = false ∧ swP x0 x1 i atv v1 v2 du pe cr op sh1 sh2 vj vr JS q) := by
  have q1 := crash_run (v := v1) (du := du) (cr := cr) (op := op) hs1.pend (by rw [hD.len]; exact hD.pin) (by have := hD.pl; omega) keep hk c1 c2
  have q2 := rcrash_run (v := v2) (du := du) (cr := cr) (op := op) hs2.pend (by rw [hD.len]; exact hD.pin) (by have := hD.pl; omega) keep hk c1 c2
  have ht := @tlQ_get JS
  have hz := tlQ_nz JS
  by_cases hok : okK keep pe.length = true
  · rw [if_pos hok] at q1 q2
    refine Ev.mono (Q := swP x0 x1 i atv v1 v2 (crashW keep 0 pe du) [] (cr + 1) op none none vj vr JS) ?_ (fun q h => .inl ⟨hok, h⟩)
    have hSl := crashW_len keep pe 0 du
    generalize crashW keep 0 pe du = S at *
    generalize hQ : swP x0 x1 i atv v1 v2 S [] (cr + 1) op none none vj vr JS = Q
    rcases hs1 with ⟨rfl, rfl⟩ | ⟨w1, rfl, g1⟩ <;> rcases hs2 with ⟨rfl, h9⟩ | ⟨w2, rfl, g2⟩
    · simp [dskC, dsk, dskB, pvC, poC] at q1 q2
      simp [HS, psQ, pO, dskB, pvC, envA, boxA] at hs
      rw [b5_4e]
      simp [hs, q1, q2]
      rw [← hQ]
      refine ⟨rfl, hd_ren rfl (renJ (f := F0) (g := F1) (f' := F2) (g' := F3) (nf := nfD) (p1 := (6, 2)) (p2 := (8, 2)) (rest := [(11, .int .i64 i), (13, .int .i64 atv)]) ?_ (nf_std (.inl rfl) (.inl rfl) JS) x0 x1 _ (by simp))⟩
      exact ⟨by repeat (first | exact hz | refine nz_cons ?_ (by decide) | refine nz_pO ?_ (by decide)), by simp [dskB, pvC], by simp, by simp, by simp [dskB, pvC], by simp, by simp, by simp, by simp,
        fun n j hn => ⟨by simp [(ht hn).1], fun w hw => by simp [(ht hn).2.1 w hw]⟩, fun n j hn => ⟨by simp [(ht hn).2.2.1], fun w hw => by simp [(ht hn).2.2.2 w hw]⟩, .inl rfl, .inl rfl⟩
    · exact absurd rfl g2
    · exact absurd h9 g1
    · simp [dskC, dsk, dskB, pvC, poC] at q1 q2
      simp [HS, psQ, pO, dskB, pvC, envA, boxA] at hs
      rw [b5_4e]
      simp [hs, q1, q2]
      rw [← hQ]
      refine ⟨rfl, hd_ren rfl (renJ (f := F0) (g := F1) (f' := F2) (g' := F3) (nf := nfD) (p1 := (6, 2)) (p2 := (8, 2)) (rest := [(11, .int .i64 i), (13, .int .i64 atv)]) ?_ (nf_std (.inl rfl) (.inl rfl) JS) x0 x1 _ (by simp))⟩
      exact ⟨by repeat (first | exact hz | refine nz_cons ?_ (by decide) | refine nz_pO ?_ (by decide)), by simp [dskB, pvC], by simp, by simp, by simp [dskB, pvC], by simp, by simp, by simp, by simp,
        fun n j hn => ⟨by simp [(ht hn).1], fun w hw => by simp [(ht hn).2.1 w hw]⟩, fun n j hn => ⟨by simp [(ht hn).2.2.1], fun w hw => by simp [(ht hn).2.2.2 w hw]⟩, .inl rfl, .inl rfl⟩
  · rw [if_neg hok] at q1 q2
    refine Ev.mono (Q := swP x0 x1 i atv v1 v2 du pe cr op sh1 sh2 vj vr JS) ?_ (fun q h => .inr ⟨by simpa using hok, h⟩)
    generalize hQ : swP x0 x1 i atv v1 v2 du pe cr op sh1 sh2 vj vr JS = Q
    rcases hs1 with ⟨rfl, rfl⟩ | ⟨w1, rfl, g1⟩ <;> rcases hs2 with ⟨rfl, h9⟩ | ⟨w2, rfl, g2⟩
    · simp [dskC, dsk, dskB, pvC, poC] at q1 q2
      simp [HS, psQ, pO, dskB, pvC, envA, boxA] at hs
      rw [b5_4e]
      simp [hs, q1, q2]
      rw [← hQ]
      refine ⟨rfl, hd_ren rfl (renJ (f := F0) (g := F1) (f' := F2) (g' := F3) (nf := nfD) (p1 := (6, 2)) (p2 := (8, 2)) (rest := [(11, .int .i64 i), (13, .int .i64 atv)]) ?_ (nf_std (.inl rfl) (.inl rfl) JS) x0 x1 _ (by simp))⟩
      exact ⟨by repeat (first | exact hz | refine nz_cons ?_ (by decide) | refine nz_pO ?_ (by decide)), by simp [dskB, pvC], by simp, by simp, by simp [dskB, pvC], by simp, by simp, by simp, by simp,
        fun n j hn => ⟨by simp [(ht hn).1], fun w hw => by simp [(ht hn).2.1 w hw]⟩, fun n j hn => ⟨by simp [(ht hn).2.2.1], fun w hw => by simp [(ht hn).2.2.2 w hw]⟩, .inl rfl, .inl rfl⟩
    · exact absurd rfl g2
    · exact absurd h9 g1
    · simp [dskC, dsk, dskB, pvC, poC] at q1 q2
      simp [HS, psQ, pO, dskB, pvC, envA, boxA] at hs
      rw [b5_4e]
      simp [hs, q1, q2]
      rw [← hQ]
      refine ⟨rfl, hd_ren rfl (renJ (f := F0) (g := F1) (f' := F2) (g' := F3) (nf := nfD) (p1 := (6, 2)) (p2 := (8, 2)) (rest := [(11, .int .i64 i), (13, .int .i64 atv)]) ?_ (nf_std (.inl rfl) (.inl rfl) JS) x0 x1 _ (by simp))⟩
      exact ⟨by repeat (first | exact hz | refine nz_cons ?_ (by decide) | refine nz_pO ?_ (by decide)), by simp [dskB, pvC], by simp, by simp, by simp [dskB, pvC], by simp, by simp, by simp, by simp,
        fun n j hn => ⟨by simp [(ht hn).1], fun w hw => by simp [(ht hn).2.1 w hw]⟩, fun n j hn => ⟨by simp [(ht hn).2.2.1], fun w hw => by simp [(ht hn).2.2.2 w hw]⟩, .inl rfl, .inl rfl⟩

theorem sw_write (hD : DOK N du pe m) (hm : m < 1000000) (hs1 : shOK sh1 pe) (hs2 : shOK sh2 pe) (hb : b.length < 1000000) {s : St}
    (hs : hd [0, 1, 5, 7, 9, 10, 11, 12, 13, 79] [] s = some ⟨envA x0 x1 vj vr JS.length i [(12, .ref (13, 0) 0), (13, .dat (.int .i64 atv)), (79, .dat (.int .i64 0))], pO (HS v1 v2 du pe cr op sh1 sh2 vj vr JS) (13, 0) (boxA 0 I b keep)⟩) :
    Ev (exec KJ b5_4 s) fun q => ∃ sh1' sh2', shOK sh1' (wrP N pe I (secB64 b)) ∧ shOK sh2' (wrP N pe I (secB64 b)) ∧ swP x0 x1 i atv v1 v2 du (wrP N pe I (secB64 b)) cr op sh1' sh2' vj vr JS q := by
  have hsec := sector_run b hb
  rw [show b.take 64 ++ List.replicate (64 - b.length) 0 = secB64 b from rfl] at hsec
  obtain ⟨sh1', o1, q1⟩ := write_c (v := v1) (cr := cr) (op := op) hD hm hs1 I (secB64 b)
  obtain ⟨sh2', o2, q2⟩ := rwrite_c (v := v2) (cr := cr) (op := op) hD hm hs2 I (secB64 b)
  have hnil := wr_nil (n := N) (pe := pe) (i := I) (b := secB64 b)
  refine Ev.mono (Q := swP x0 x1 i atv v1 v2 du (wrP N pe I (secB64 b)) cr op sh1' sh2' vj vr JS) ?_ (fun q h => ⟨sh1', sh2', o1, o2, h⟩)
  generalize wrP N pe I (secB64 b) = pe' at *
  generalize wrE N I (secB64 b) = er at *
  generalize secB64 b = b' at *
  generalize hQ : swP x0 x1 i atv v1 v2 du pe' cr op sh1' sh2' vj vr JS = Q
  have ht := @tlQ_get JS
  have hz := tlQ_nz JS
  rcases hs1 with ⟨rfl, rfl⟩ | ⟨w1, rfl, g1⟩ <;> rcases hs2 with ⟨rfl, h9⟩ | ⟨w2, rfl, g2⟩
  · rcases o1 with ⟨rfl, rfl⟩ | ⟨w1, rfl, g1⟩ <;> rcases o2 with ⟨rfl, h0⟩ | ⟨w2, rfl, g2⟩
    · simp [dskC, dsk, dskB, pvC, poC] at q1 q2
      simp [HS, psQ, pO, dskB, pvC, envA, boxA] at hs
      rw [b5_4e]
      simp [hs, hsec, q1, q2]
      rw [← hQ]
      refine ⟨rfl, hd_ren rfl (renJ (f := F0) (g := F1) (f' := F2) (g' := F3) (nf := nfD) (p1 := (6, 2)) (p2 := (8, 2)) (rest := [(11, .int .i64 i), (13, .int .i64 atv)]) ?_ (nf_std (.inl rfl) (.inl rfl) JS) x0 x1 _ (by simp))⟩
      exact ⟨by repeat (first | exact hz | refine nz_cons ?_ (by decide) | refine nz_pO ?_ (by decide)), by simp [dskB, pvC], by simp, by simp, by simp [dskB, pvC], by simp, by simp, by simp, by simp,
        fun n j hn => ⟨by simp [(ht hn).1], fun w hw => by simp [(ht hn).2.1 w hw]⟩, fun n j hn => ⟨by simp [(ht hn).2.2.1], fun w hw => by simp [(ht hn).2.2.2 w hw]⟩, .inl rfl, .inl rfl⟩
    · exact absurd rfl g2
    · exact absurd h0 g1
    · simp [dskC, dsk, dskB, pvC, poC] at q1 q2
      simp [HS, psQ, pO, dskB, pvC, envA, boxA] at hs
      rw [b5_4e]
      simp [hs, hsec, q1, q2]
      rw [← hQ]
      refine ⟨rfl, hd_ren rfl (renJ (f := F0) (g := F1) (f' := F2) (g' := F3) (nf := nfD) (p1 := (89, 0)) (p2 := (96, 0)) (rest := [(11, .int .i64 i), (13, .int .i64 atv)]) ?_ (nf_std (.inr rfl) (.inr rfl) JS) x0 x1 _ (by simp))⟩
      exact ⟨by repeat (first | exact hz | refine nz_cons ?_ (by decide) | refine nz_pO ?_ (by decide)), by simp [dskB, pvC], by simp, by simp, by simp [dskB, pvC], by simp, by simp, by simp, by simp,
        fun n j hn => ⟨by simp [(ht hn).1], fun w hw => by simp [(ht hn).2.1 w hw]⟩, fun n j hn => ⟨by simp [(ht hn).2.2.1], fun w hw => by simp [(ht hn).2.2.2 w hw]⟩, .inr rfl, .inr rfl⟩
  · exact absurd rfl g2
  · exact absurd h9 g1
  · rcases o1 with ⟨rfl, h8⟩ | ⟨y1, rfl, f1⟩
    · exact absurd (hnil h8) g1
    · rcases o2 with ⟨rfl, h8⟩ | ⟨y2, rfl, f2⟩
      · exact absurd (hnil h8) g1
      · simp [dskC, dsk, dskB, pvC, poC] at q1 q2
        simp [HS, psQ, pO, dskB, pvC, envA, boxA] at hs
        rw [b5_4e]
        simp [hs, hsec, q1, q2]
        rw [← hQ]
        refine ⟨rfl, hd_ren rfl (renJ (f := F0) (g := F1) (f' := F2) (g' := F3) (nf := nfD) (p1 := (6, 2)) (p2 := (8, 2)) (rest := [(11, .int .i64 i), (13, .int .i64 atv)]) ?_ (nf_std (.inl rfl) (.inl rfl) JS) x0 x1 _ (by simp))⟩
        exact ⟨by repeat (first | exact hz | refine nz_cons ?_ (by decide) | refine nz_pO ?_ (by decide)), by simp [dskB, pvC], by simp, by simp, by simp [dskB, pvC], by simp, by simp, by simp, by simp,
          fun n j hn => ⟨by simp [(ht hn).1], fun w hw => by simp [(ht hn).2.1 w hw]⟩, fun n j hn => ⟨by simp [(ht hn).2.2.1], fun w hw => by simp [(ht hn).2.2.2 w hw]⟩, .inl rfl, .inl rfl⟩
end
end Go.Am

/- The law on acts: a journal is opened. -/
set_option linter.unusedVariables false
set_option linter.unusedSimpArgs false
set_option maxRecDepth 10000
namespace Go.Am
open Go.Proofs

attribute [local simp] gO_pO tlQ_low

theorem refsQ_none (f : Nat → Id) : ∀ (JS : JL) (i : Nat), refsQ f i (JS ++ [none]) = refsQ f i JS ++ [.nilp]
  | [], i => rfl
  | none :: l, i => by simp only [List.cons_append, refsQ, refsQ_none f l]
  | some j :: l, i => by simp only [List.cons_append, refsQ, refsQ_none f l]
theorem refsQ_some (f : Nat → Id) (j : JJ) : ∀ (JS : JL) (i : Nat), refsQ f i (JS ++ [some j]) = refsQ f i JS ++ [.ref (f (i + JS.length)) 0]
  | [], i => rfl
  | none :: l, i => by
    simp only [List.cons_append, refsQ, refsQ_some f j l, List.length_cons]
    rw [show i + 1 + l.length = i + (l.length + 1) from by omega]
  | some j0 :: l, i => by
    simp only [List.cons_append, refsQ, refsQ_some f j l, List.length_cons]
    rw [show i + 1 + l.length = i + (l.length + 1) from by omega]
theorem refsQ_congr {f f' : Nat → Id} : ∀ (JS : JL) (i : Nat), (∀ n, n < JS.length → f (i + n) = f' (i + n)) → refsQ f i JS = refsQ f' i JS
  | [], i, _ => rfl
  | none :: l, i, h => by
    have ih := refsQ_congr (f := f) (f' := f') l (i + 1) (fun n hn => by have := h (n + 1) (by simp; omega); rwa [show i + (n + 1) = i + 1 + n from by omega] at this)
    simp only [refsQ, ih]
  | some j :: l, i, h => by
    have ih := refsQ_congr (f := f) (f' := f') l (i + 1) (fun n hn => by have := h (n + 1) (by simp; omega); rwa [show i + (n + 1) = i + 1 + n from by omega] at this)
    have h0 := h 0 (by simp)
    rw [Nat.add_zero] at h0
    simp only [refsQ, ih, h0]

theorem snoc_none {JS : JL} {n : Nat} {j : JJ} (h : (JS ++ [none])[n]? = some (some j)) : JS[n]? = some (some j) := by
  by_cases hn : n < JS.length
  · rwa [List.getElem?_append_left hn] at h
  · rw [List.getElem?_append_right (by omega)] at h
    match n - JS.length, h with
    | 0, h => simp at h
    | k + 1, h => simp at h
theorem snoc_some {JS : JL} {n : Nat} {x j : JJ} (h : (JS ++ [some x])[n]? = some (some j)) : (n < JS.length ∧ JS[n]? = some (some j)) ∨ (n = JS.length ∧ j = x) := by
  by_cases hn : n < JS.length
  · rw [List.getElem?_append_left hn] at h; exact .inl ⟨hn, h⟩
  · rw [List.getElem?_append_right (by omega)] at h
    by_cases h0 : n = JS.length
    · subst h0
      simp at h
      exact .inr ⟨rfl, h.symm⟩
    · rw [List.getElem?_eq_none (by simp; omega)] at h; cases h

theorem refsQ_len (f : Nat → Id) : ∀ (JS : JL) (i : Nat), (refsQ f i JS).length = JS.length
  | [], i => rfl
  | none :: l, i => by simp only [refsQ, List.length_cons, refsQ_len f l]
  | some j :: l, i => by simp only [refsQ, List.length_cons, refsQ_len f l]

def G0 (L : Nat) : Nat → Id := fun n => if n = L then (118, 0) else (1000, n)
def G1 (L : Nat) : Nat → Id := fun n => if n = L then (118, 1) else (1001, n)
def G2 (L : Nat) : Nat → Id := fun n => if n = L then (124, 0) else (1002, n)
def G3 (L : Nat) : Nat → Id := fun n => if n = L then (124, 1) else (1003, n)
def nfO (L : Nat) (x : Id) : Id := if x = (118, 0) then (1000, L) else if x = (118, 1) then (1001, L) else if x = (124, 0) then (1002, L) else if x = (124, 1) then (1003, L) else x
theorem nf_opn (JS : JL) (x : JJ) : Nf (nfO JS.length) (6, 2) (8, 2) (JS ++ [some x]) (G0 JS.length) (G1 JS.length) (G2 JS.length) (G3 JS.length) := by
  refine ⟨rfl, rfl, rfl, rfl, rfl, rfl, rfl, rfl, fun n j hn => ?_⟩
  by_cases h : n = JS.length
  · subst h; simp [nfO, G0, G1, G2, G3]
  · simp [nfO, G0, G1, G2, G3, h]

section
variable {x0 x1 : Dat} {i : Nat} {atv K I : Int} {b : List UInt8} {keep : List Int} {v1 v2 : Nat} {du : List (List UInt8)} {pe : Pe} {cr op : Int} {sh1 sh2 : Option Nat} {vj vr : Nat} {JS : JL} {N m : Nat}

theorem sw_full (hD : DOK N du pe m) (hm : m < 1000000) (hs1 : shOK sh1 pe) (hs2 : shOK sh2 pe) (hM : mostB (allC du pe) 0 = 4294967295) (hL : JS.length ≤ 1000) {s : St}
    (hs : hd [0, 1, 5, 7, 9, 10, 11, 12, 13, 79] [] s = some ⟨envA x0 x1 vj vr JS.length i [(12, .ref (13, 0) 0), (13, .dat (.int .i64 atv)), (79, .dat (.int .i64 4))], pO (HS v1 v2 du pe cr op sh1 sh2 vj vr JS) (13, 0) (boxA 4 I b keep)⟩) :
    Ev (exec KJ b5_4 s) (swP x0 x1 i atv v1 v2 du pe cr op sh1 sh2 (vj + 1) (vr + 1) (JS ++ [none])) := by
  have q1 := open_full (v := v1) (cr := cr) (op := op) hs1.pend (by have := hD.pl; omega) hD.h64 hD.p64 (by have := hD.len; have := hD.n4; omega) hM
  have q2 := ropen_full (v := v2) (cr := cr) (op := op) hs2.pend (by have := hD.pl; omega) hD.h64 hD.p64 (by have := hD.len; have := hD.n4; omega) hM
  have q3 := lists_run [] [] (by simp)
  have hr : (JS.length + 1) * 9 ≤ 1099511627776 := by omega
  clear hM
  generalize hQ : swP x0 x1 i atv v1 v2 du pe cr op sh1 sh2 (vj + 1) (vr + 1) (JS ++ [none]) = Q
  have ht := @tlQ_get JS
  have hz := tlQ_nz JS
  simp at q3
  have e1 := refsQ_none F0 JS 0
  have e2 := refsQ_none F2 JS 0
  have e3 : (JS ++ [none]).length = JS.length + 1 := by simp
  rcases hs1 with ⟨rfl, rfl⟩ | ⟨w1, rfl, g1⟩ <;> rcases hs2 with ⟨rfl, h9⟩ | ⟨w2, rfl, g2⟩
  · simp [dsk, dskB, pvC, poC] at q1 q2
    simp [HS, psQ, pO, dskB, pvC, envA, boxA] at hs
    rw [b5_4e]
    simp [hs, q1, q2, q3, hr, refsQ_len]
    rw [← hQ]
    unfold swP
    rw [e3]
    refine ⟨rfl, hd_ren rfl (renJ (f := F0) (g := F1) (f' := F2) (g' := F3) (nf := nfD) (p1 := (6, 2)) (p2 := (8, 2)) (rest := [(11, .int .i64 i), (13, .int .i64 atv)]) ?_ (nf_std (.inl rfl) (.inl rfl) (JS ++ [none])) x0 x1 _ (by simp))⟩
    exact ⟨by repeat (first | exact hz | refine nz_cons ?_ (by decide) | refine nz_pO ?_ (by decide)), by simp [dskB, pvC], by simp, by simp, by simp [dskB, pvC], by simp, by simp, by simp [e1], by simp [e2],
      fun n j hn => ⟨by simp [(ht (snoc_none hn)).1], fun w hw => by simp [(ht (snoc_none hn)).2.1 w hw]⟩, fun n j hn => ⟨by simp [(ht (snoc_none hn)).2.2.1], fun w hw => by simp [(ht (snoc_none hn)).2.2.2 w hw]⟩, .inl rfl, .inl rfl⟩
  · exact absurd rfl g2
  · exact absurd h9 g1
  · simp [dsk, dskB, pvC, poC] at q1 q2
    simp [HS, psQ, pO, dskB, pvC, envA, boxA] at hs
    rw [b5_4e]
    simp [hs, q1, q2, q3, hr, refsQ_len]
    rw [← hQ]
    unfold swP
    rw [e3]
    refine ⟨rfl, hd_ren rfl (renJ (f := F0) (g := F1) (f' := F2) (g' := F3) (nf := nfD) (p1 := (6, 2)) (p2 := (8, 2)) (rest := [(11, .int .i64 i), (13, .int .i64 atv)]) ?_ (nf_std (.inl rfl) (.inl rfl) (JS ++ [none])) x0 x1 _ (by simp))⟩
    exact ⟨by repeat (first | exact hz | refine nz_cons ?_ (by decide) | refine nz_pO ?_ (by decide)), by simp [dskB, pvC], by simp, by simp, by simp [dskB, pvC], by simp, by simp, by simp [e1], by simp [e2],
      fun n j hn => ⟨by simp [(ht (snoc_none hn)).1], fun w hw => by simp [(ht (snoc_none hn)).2.1 w hw]⟩, fun n j hn => ⟨by simp [(ht (snoc_none hn)).2.2.1], fun w hw => by simp [(ht (snoc_none hn)).2.2.2 w hw]⟩, .inl rfl, .inl rfl⟩

theorem sw_open (hD : DOK N du pe m) (hm : m < 1000000) (hs1 : shOK sh1 pe) (hs2 : shOK sh2 pe) (hM : mostB (allC du pe) 0 ≠ 4294967295) (hL : JS.length ≤ 1000) (o1 : 0 ≤ op) (o2 : op < 1000000) {s : St}
    (hs : hd [0, 1, 5, 7, 9, 10, 11, 12, 13, 79] [] s = some ⟨envA x0 x1 vj vr JS.length i [(12, .ref (13, 0) 0), (13, .dat (.int .i64 atv)), (79, .dat (.int .i64 4))], pO (HS v1 v2 du pe cr op sh1 sh2 vj vr JS) (13, 0) (boxA 4 I b keep)⟩) :
    Ev (exec KJ b5_4 s) fun q => ∃ j : JJ, JOK N i j ∧ swP x0 x1 i atv v1 v2 du pe cr (op + 1) sh1 sh2 (vj + 1) (vr + 1) (JS ++ [some j]) q := by
  have hdl : du.length ≤ 4096 := by have := hD.len; have := hD.n4; omega
  obtain ⟨rv1, ro1, k1, q1⟩ := open_run (v := v1) (cr := cr) (op := op) hs1.pend (by have := hD.pl; omega) hD.h64 hD.p64 hdl o1 (by omega) hM
  obtain ⟨rv2, ro2, k2, q2⟩ := ropen28_run (v := v2) (cr := cr) (op := op) hs2.pend (by have := hD.pl; omega) hD.h64 hD.p64 hdl o1 (by omega) hM
  have hsc := scan_len (all := allC du pe) (du.length + 1) 0 0 (by omega) (allC_64 hD.h64 hD.p64)
  have hml := mostB_lt (allC du pe) 0 (by omega)
  rw [allC_len] at hsc
  generalize mostB (allC du pe) 0 = M at *
  generalize scanB (du.length + 1) (allC du pe) 0 0 = S at *
  obtain ⟨rs, en⟩ := S
  dsimp only at *
  have q3 := lists_run rs rs (by omega)
  rw [show (rs == rs) = true from by simp] at q3
  have hr : (JS.length + 1) * 9 ≤ 1099511627776 := by omega
  obtain ⟨r1, hr1⟩ : ∃ r1, (r1 = none ∧ rs = [] ∧ rv1 = .nils ∧ ro1 = []) ∨ ∃ w, r1 = some w ∧ rv1 = .rsl (0, 3 + (poC sh1 pe).length) w 1 0 rs.length ∧ ro1 = [.arr 1 w false (rs.map Bs)] := by
    rcases k1 with ⟨a, b, c⟩ | ⟨w, a, b⟩
    · exact ⟨none, .inl ⟨rfl, a, b, c⟩⟩
    · exact ⟨some w, .inr ⟨w, rfl, a, b⟩⟩
  obtain ⟨r2, hr2⟩ : ∃ r2, (r2 = none ∧ rs = [] ∧ rv2 = .nils ∧ ro2 = []) ∨ ∃ w, r2 = some w ∧ rv2 = .rsl (0, 3 + (poC sh2 pe).length) w 1 0 rs.length ∧ ro2 = [.arr 1 w false (rs.map Bs)] := by
    rcases k2 with ⟨a, b, c⟩ | ⟨w, a, b⟩
    · exact ⟨none, .inl ⟨rfl, a, b, c⟩⟩
    · exact ⟨some w, .inr ⟨w, rfl, a, b⟩⟩
  clear k1 k2
  generalize hj : (⟨rs, en, M + 1, cr, op + 1, r1, r2⟩ : JJ) = jn
  have hJ : JOK N i jn := by
    subst hj
    refine ⟨?_, ?_, by dsimp only; omega, fun d hd => by have := hsc.2.2.2 d hd; omega, by dsimp only; have := hD.len; omega, by dsimp only; omega⟩
    · rcases hr1 with ⟨rfl, a, _⟩ | ⟨w, rfl, _⟩
      · exact .inl ⟨rfl, a⟩
      · exact .inr ⟨w, rfl⟩
    · rcases hr2 with ⟨rfl, a, _⟩ | ⟨w, rfl, _⟩
      · exact .inl ⟨rfl, a⟩
      · exact .inr ⟨w, rfl⟩
  refine Ev.mono (Q := swP x0 x1 i atv v1 v2 du pe cr (op + 1) sh1 sh2 (vj + 1) (vr + 1) (JS ++ [some jn])) ?_ (fun q h => ⟨jn, hJ, h⟩)
  generalize hQ : swP x0 x1 i atv v1 v2 du pe cr (op + 1) sh1 sh2 (vj + 1) (vr + 1) (JS ++ [some jn]) = Q
  have ht := @tlQ_get JS
  have hz := tlQ_nz JS
  have e1 : refsQ (G0 JS.length) 0 (JS ++ [some jn]) = refsQ F0 0 JS ++ [.ref (118, 0) 0] := by
    rw [refsQ_some, Nat.zero_add, refsQ_congr (f' := F0) JS 0 (fun n hn => by simp [G0]; omega)]
    simp [G0]
  have e2 : refsQ (G2 JS.length) 0 (JS ++ [some jn]) = refsQ F2 0 JS ++ [.ref (124, 0) 0] := by
    rw [refsQ_some, Nat.zero_add, refsQ_congr (f' := F2) JS 0 (fun n hn => by simp [G2]; omega)]
    simp [G2]
  have e3 : (JS ++ [some jn]).length = JS.length + 1 := by simp
  have hN := nf_opn JS jn
  rcases hs1 with ⟨rfl, rfl⟩ | ⟨w1, rfl, g1⟩ <;> rcases hs2 with ⟨rfl, h9⟩ | ⟨w2, rfl, g2⟩
  · rcases hr1 with ⟨rfl, y1, rfl, rfl⟩ | ⟨w, rfl, rfl, rfl⟩ <;> rcases hr2 with ⟨rfl, y2, rfl, rfl⟩ | ⟨w', rfl, rfl, rfl⟩
    all_goals
      simp [dsk, dskB, pvC, poC, jouB, jouR] at q1 q2 q3
      simp [HS, psQ, pO, dskB, pvC, envA, boxA] at hs
      rw [b5_4e]
      simp [hs, q1, q2, q3, hr, refsQ_len]
      rw [← hQ]
      unfold swP
      rw [e3]
      refine ⟨rfl, hd_ren rfl (renJ (f := G0 JS.length) (g := G1 JS.length) (f' := G2 JS.length) (g' := G3 JS.length) (nf := nfO JS.length) (p1 := (6, 2)) (p2 := (8, 2)) (rest := [(11, .int .i64 i), (13, .int .i64 atv)]) ?_ hN x0 x1 _ (by simp))⟩
      refine ⟨by repeat (first | exact hz | refine nz_cons ?_ (by decide) | refine nz_pO ?_ (by decide)), by simp [dskB, pvC], by simp, by simp, by simp [dskB, pvC], by simp, by simp, by simp [e1], by simp [e2],
        fun n j hn => ?_, fun n j hn => ?_, .inl rfl, .inl rfl⟩
      · rcases snoc_some hn with ⟨hlt, hn⟩ | ⟨rfl, rfl⟩
        · have hne : ¬ n = JS.length := by omega
          exact ⟨by simp [G0, G1, hne, (ht hn).1], fun w hw => by simp [G1, hne, (ht hn).2.1 w hw]⟩
        · subst hj
          exact ⟨by simp [G0, G1, bxG, recI], fun w hw => by simp at hw; try subst hw; simp [G1]⟩
      · rcases snoc_some hn with ⟨hlt, hn⟩ | ⟨rfl, rfl⟩
        · have hne : ¬ n = JS.length := by omega
          exact ⟨by simp [G2, G3, hne, (ht hn).2.2.1], fun w hw => by simp [G3, hne, (ht hn).2.2.2 w hw]⟩
        · subst hj
          exact ⟨by simp [G2, G3, bxG, recI], fun w hw => by simp at hw; try subst hw; simp [G3]⟩
  · exact absurd rfl g2
  · exact absurd h9 g1
  · rcases hr1 with ⟨rfl, y1, rfl, rfl⟩ | ⟨w, rfl, rfl, rfl⟩ <;> rcases hr2 with ⟨rfl, y2, rfl, rfl⟩ | ⟨w', rfl, rfl, rfl⟩
    all_goals
      simp [dsk, dskB, pvC, poC, jouB, jouR] at q1 q2 q3
      simp [HS, psQ, pO, dskB, pvC, envA, boxA] at hs
      rw [b5_4e]
      simp [hs, q1, q2, q3, hr, refsQ_len]
      rw [← hQ]
      unfold swP
      rw [e3]
      refine ⟨rfl, hd_ren rfl (renJ (f := G0 JS.length) (g := G1 JS.length) (f' := G2 JS.length) (g' := G3 JS.length) (nf := nfO JS.length) (p1 := (6, 2)) (p2 := (8, 2)) (rest := [(11, .int .i64 i), (13, .int .i64 atv)]) ?_ hN x0 x1 _ (by simp))⟩
      refine ⟨by repeat (first | exact hz | refine nz_cons ?_ (by decide) | refine nz_pO ?_ (by decide)), by simp [dskB, pvC], by simp, by simp, by simp [dskB, pvC], by simp, by simp, by simp [e1], by simp [e2],
        fun n j hn => ?_, fun n j hn => ?_, .inl rfl, .inl rfl⟩
      · rcases snoc_some hn with ⟨hlt, hn⟩ | ⟨rfl, rfl⟩
        · have hne : ¬ n = JS.length := by omega
          exact ⟨by simp [G0, G1, hne, (ht hn).1], fun w hw => by simp [G1, hne, (ht hn).2.1 w hw]⟩
        · subst hj
          exact ⟨by simp [G0, G1, bxG, recI], fun w hw => by simp at hw; try subst hw; simp [G1]⟩
      · rcases snoc_some hn with ⟨hlt, hn⟩ | ⟨rfl, rfl⟩
        · have hne : ¬ n = JS.length := by omega
          exact ⟨by simp [G2, G3, hne, (ht hn).2.2.1], fun w hw => by simp [G3, hne, (ht hn).2.2.2 w hw]⟩
        · subst hj
          exact ⟨by simp [G2, G3, bxG, recI], fun w hw => by simp at hw; try subst hw; simp [G3]⟩
end
end Go.Am

/- The law on acts: a record is appended. -/
set_option linter.unusedVariables false
set_option linter.unusedSimpArgs false
set_option maxRecDepth 10000
namespace Go.Am
open Go.Proofs

attribute [local simp] gO_pO tlQ_low

theorem refsQ_get {f : Nat → Id} : ∀ {JS : JL} {i n : Nat} {x : Option JJ}, JS[n]? = some x → (refsQ f i JS)[n]? = some (match x with | none => .nilp | some _ => .ref (f (i + n)) 0)
  | [], i, n, x, h => by simp at h
  | none :: l, i, 0, x, h => by simp at h; subst h; rfl
  | some j :: l, i, 0, x, h => by simp at h; subst h; rfl
  | none :: l, i, n + 1, x, h => by
    have := refsQ_get (f := f) (JS := l) (i := i + 1) (n := n) (x := x) (by simpa using h)
    rw [show i + 1 + n = i + (n + 1) from by omega] at this
    simpa [refsQ] using this
  | some j :: l, i, n + 1, x, h => by
    have := refsQ_get (f := f) (JS := l) (i := i + 1) (n := n) (x := x) (by simpa using h)
    rw [show i + 1 + n = i + (n + 1) from by omega] at this
    simpa [refsQ] using this

theorem refsQ_at {f : Nat → Id} {JS : JL} {n : Nat} {x : Option JJ} (h : JS[n]? = some x) : ∀ hl : n < (refsQ f 0 JS).length, (refsQ f 0 JS)[n] = (match x with | none => .nilp | some _ => .ref (f n) 0) := by
  intro hl
  have := refsQ_get (f := f) (i := 0) h
  rw [List.getElem?_eq_getElem hl] at this
  have := Option.some.inj this
  cases x with
  | none => exact this
  | some j => rw [Nat.zero_add] at this; exact this

theorem refsQ_set {f : Nat → Id} {j j' : JJ} : ∀ {JS : JL} {i n : Nat}, JS[n]? = some (some j) → refsQ f i (JS.set n (some j')) = refsQ f i JS
  | [], i, n, h => by simp at h
  | x :: l, i, 0, h => by simp at h; subst h; rfl
  | none :: l, i, n + 1, h => by
    have := refsQ_set (f := f) (j' := j') (JS := l) (i := i + 1) (n := n) (by simpa using h)
    simpa [refsQ] using this
  | some j0 :: l, i, n + 1, h => by
    have := refsQ_set (f := f) (j' := j') (JS := l) (i := i + 1) (n := n) (by simpa using h)
    simpa [refsQ] using this

theorem set_get {JS : JL} {a n : Nat} {x j0 : JJ} (h : (JS.set a (some x))[n]? = some (some j0)) : (n = a ∧ j0 = x) ∨ (¬ a = n ∧ JS[n]? = some (some j0)) := by
  rw [List.getElem?_set] at h
  split at h
  · rename_i e
    split at h
    · simp at h; exact .inl ⟨e.symm, h.symm⟩
    · cases h
  · rename_i e
    exact .inr ⟨e, h⟩

def H1 (a : Nat) : Option Nat → Nat → Id
  | none => fun n => if n = a then (163, 0) else (1001, n)
  | some _ => F1
def H3 (a : Nat) : Option Nat → Nat → Id
  | none => fun n => if n = a then (170, 0) else (1003, n)
  | some _ => F3
def nfA (a : Nat) (x : Id) : Id := if x = (163, 0) then (1001, a) else if x = (170, 0) then (1003, a) else x
theorem nf_app (JS : JL) (a : Nat) (r1 r2 : Option Nat) : Nf (nfA a) (6, 2) (8, 2) JS F0 (H1 a r1) F2 (H3 a r2) := by
  refine ⟨rfl, rfl, rfl, rfl, rfl, rfl, rfl, rfl, fun n j hn => ?_⟩
  by_cases h : n = a
  · subst h; cases r1 <;> cases r2 <;> simp [nfA, H1, H3]
  · cases r1 <;> cases r2 <;> simp [nfA, H1, H3, h]

def upV : Option Nat → Nat
  | none => 0
  | some w => w + 1

section
variable {x0 x1 : Dat} {i : Nat} {atv K I : Int} {b : List UInt8} {keep : List Int} {v1 v2 : Nat} {du : List (List UInt8)} {pe : Pe} {cr op : Int} {sh1 sh2 : Option Nat} {vj vr : Nat} {JS : JL} {N m : Nat}

theorem sw_app_low (h : ¬ 0 ≤ atv) (hs1 : shOK sh1 pe) (hs2 : shOK sh2 pe) {s : St}
    (hs : hd [0, 1, 5, 7, 9, 10, 11, 12, 13, 79] [] s = some ⟨envA x0 x1 vj vr JS.length i [(12, .ref (13, 0) 0), (13, .dat (.int .i64 atv)), (79, .dat (.int .i64 5))], pO (HS v1 v2 du pe cr op sh1 sh2 vj vr JS) (13, 0) (boxA 5 I b keep)⟩) :
    Ev (exec KJ b5_4 s) (swP x0 x1 i atv v1 v2 du pe cr op sh1 sh2 vj vr JS) := by
  generalize hQ : swP x0 x1 i atv v1 v2 du pe cr op sh1 sh2 vj vr JS = Q
  have ht := @tlQ_get JS
  have hz := tlQ_nz JS
  rcases hs1 with ⟨rfl, rfl⟩ | ⟨w1, rfl, g1⟩ <;> rcases hs2 with ⟨rfl, h9⟩ | ⟨w2, rfl, g2⟩
  · simp [HS, psQ, pO, dskB, pvC, envA, boxA] at hs
    rw [b5_4e]
    simp [hs, h]
    rw [← hQ]
    refine ⟨rfl, hd_ren rfl (renJ (f := F0) (g := F1) (f' := F2) (g' := F3) (nf := nfD) (p1 := (6, 2)) (p2 := (8, 2)) (rest := [(11, .int .i64 i), (13, .int .i64 atv)]) ?_ (nf_std (.inl rfl) (.inl rfl) JS) x0 x1 _ (by simp))⟩
    exact ⟨by repeat (first | exact hz | refine nz_cons ?_ (by decide) | refine nz_pO ?_ (by first | decide | simp)), by simp [dskB, pvC], by simp, by simp, by simp [dskB, pvC], by simp, by simp, by simp, by simp,
      fun n j hn => ⟨by simp [(ht hn).1], fun w hw => by simp [(ht hn).2.1 w hw]⟩, fun n j hn => ⟨by simp [(ht hn).2.2.1], fun w hw => by simp [(ht hn).2.2.2 w hw]⟩, .inl rfl, .inl rfl⟩
  · exact absurd rfl g2
  · exact absurd h9 g1
  · simp [HS, psQ, pO, dskB, pvC, envA, boxA] at hs
    rw [b5_4e]
    simp [hs, h]
    rw [← hQ]
    refine ⟨rfl, hd_ren rfl (renJ (f := F0) (g := F1) (f' := F2) (g' := F3) (nf := nfD) (p1 := (6, 2)) (p2 := (8, 2)) (rest := [(11, .int .i64 i), (13, .int .i64 atv)]) ?_ (nf_std (.inl rfl) (.inl rfl) JS) x0 x1 _ (by simp))⟩
    exact ⟨by repeat (first | exact hz | refine nz_cons ?_ (by decide) | refine nz_pO ?_ (by first | decide | simp)), by simp [dskB, pvC], by simp, by simp, by simp [dskB, pvC], by simp, by simp, by simp, by simp,
      fun n j hn => ⟨by simp [(ht hn).1], fun w hw => by simp [(ht hn).2.1 w hw]⟩, fun n j hn => ⟨by simp [(ht hn).2.2.1], fun w hw => by simp [(ht hn).2.2.2 w hw]⟩, .inl rfl, .inl rfl⟩

theorem sw_app_nil {a : Nat} (ha : JS[a]? = some none) (hs1 : shOK sh1 pe) (hs2 : shOK sh2 pe) {s : St}
    (hs : hd [0, 1, 5, 7, 9, 10, 11, 12, 13, 79] [] s = some ⟨envA x0 x1 vj vr JS.length i [(12, .ref (13, 0) 0), (13, .dat (.int .i64 a)), (79, .dat (.int .i64 5))], pO (HS v1 v2 du pe cr op sh1 sh2 vj vr JS) (13, 0) (boxA 5 I b keep)⟩) :
    Ev (exec KJ b5_4 s) (swP x0 x1 i a v1 v2 du pe cr op sh1 sh2 vj vr JS) := by
  generalize hQ : swP x0 x1 i a v1 v2 du pe cr op sh1 sh2 vj vr JS = Q
  have ht := @tlQ_get JS
  have hz := tlQ_nz JS
  have hlt : a < JS.length := by
    by_cases h : a < JS.length
    · exact h
    · rw [List.getElem?_eq_none (by omega)] at ha; cases ha
  have r1 := refsQ_at (f := F0) ha (by rw [refsQ_len]; exact hlt)
  have r2 := refsQ_at (f := F2) ha (by rw [refsQ_len]; exact hlt)
  have q1 := app_n b
  have q2 := rapp_n b
  simp at q1 q2
  rcases hs1 with ⟨rfl, rfl⟩ | ⟨w1, rfl, g1⟩ <;> rcases hs2 with ⟨rfl, h9⟩ | ⟨w2, rfl, g2⟩
  · simp [HS, psQ, pO, dskB, pvC, envA, boxA] at hs
    rw [b5_4e]
    simp [hs, hlt, r1, r2, q1, q2, refsQ_len]
    rw [← hQ]
    refine ⟨rfl, hd_ren rfl (renJ (f := F0) (g := F1) (f' := F2) (g' := F3) (nf := nfD) (p1 := (6, 2)) (p2 := (8, 2)) (rest := [(11, .int .i64 i), (13, .int .i64 a)]) ?_ (nf_std (.inl rfl) (.inl rfl) JS) x0 x1 _ (by simp))⟩
    exact ⟨by repeat (first | exact hz | refine nz_cons ?_ (by decide) | refine nz_pO ?_ (by first | decide | simp)), by simp [dskB, pvC], by simp, by simp, by simp [dskB, pvC], by simp, by simp, by simp, by simp,
      fun n j hn => ⟨by simp [(ht hn).1], fun w hw => by simp [(ht hn).2.1 w hw]⟩, fun n j hn => ⟨by simp [(ht hn).2.2.1], fun w hw => by simp [(ht hn).2.2.2 w hw]⟩, .inl rfl, .inl rfl⟩
  · exact absurd rfl g2
  · exact absurd h9 g1
  · simp [HS, psQ, pO, dskB, pvC, envA, boxA] at hs
    rw [b5_4e]
    simp [hs, hlt, r1, r2, q1, q2, refsQ_len]
    rw [← hQ]
    refine ⟨rfl, hd_ren rfl (renJ (f := F0) (g := F1) (f' := F2) (g' := F3) (nf := nfD) (p1 := (6, 2)) (p2 := (8, 2)) (rest := [(11, .int .i64 i), (13, .int .i64 a)]) ?_ (nf_std (.inl rfl) (.inl rfl) JS) x0 x1 _ (by simp))⟩
    exact ⟨by repeat (first | exact hz | refine nz_cons ?_ (by decide) | refine nz_pO ?_ (by first | decide | simp)), by simp [dskB, pvC], by simp, by simp, by simp [dskB, pvC], by simp, by simp, by simp, by simp,
      fun n j hn => ⟨by simp [(ht hn).1], fun w hw => by simp [(ht hn).2.1 w hw]⟩, fun n j hn => ⟨by simp [(ht hn).2.2.1], fun w hw => by simp [(ht hn).2.2.2 w hw]⟩, .inl rfl, .inl rfl⟩

theorem sw_app_no {a : Nat} {j : JJ} {e : Int} (ha : JS[a]? = some (some j)) (hj1 : rcK j.rs j.r1) (hj2 : rcK j.rs j.r2) (hs1 : shOK sh1 pe) (hs2 : shOK sh2 pe)
    (q1 : KJ 13 [.ref (0, 0) 0, .dat (Bs b)] (jobs (jouA (rcV j.rs j.r1) j.next j.ep j.cr j.op) v1 du cr op j.r1 j.rs sh1 pe) = some (.dat (.int .i64 e), jobs (jouA (rcV j.rs j.r1) j.next j.ep j.cr j.op) v1 du cr op j.r1 j.rs sh1 pe))
    (q2 : KJ 29 [.ref (0, 0) 0, .dat (Bs b)] (jobs (jouAR (rcV j.rs j.r2) j.next j.ep j.cr j.op) v2 du cr op j.r2 j.rs sh2 pe) = some (.dat (.int .i64 e), jobs (jouAR (rcV j.rs j.r2) j.next j.ep j.cr j.op) v2 du cr op j.r2 j.rs sh2 pe)) {s : St}
    (hs : hd [0, 1, 5, 7, 9, 10, 11, 12, 13, 79] [] s = some ⟨envA x0 x1 vj vr JS.length i [(12, .ref (13, 0) 0), (13, .dat (.int .i64 a)), (79, .dat (.int .i64 5))], pO (HS v1 v2 du pe cr op sh1 sh2 vj vr JS) (13, 0) (boxA 5 I b keep)⟩) :
    Ev (exec KJ b5_4 s) (swP x0 x1 i a v1 v2 du pe cr op sh1 sh2 vj vr JS) := by
  generalize hQ : swP x0 x1 i a v1 v2 du pe cr op sh1 sh2 vj vr JS = Q
  have ht := @tlQ_get JS
  have hz := tlQ_nz JS
  have hlt : a < JS.length := by
    by_cases h : a < JS.length
    · exact h
    · rw [List.getElem?_eq_none (by omega)] at ha; cases ha
  have r1 := refsQ_at (f := F0) ha (by rw [refsQ_len]; exact hlt)
  have r2 := refsQ_at (f := F2) ha (by rw [refsQ_len]; exact hlt)
  obtain ⟨t1, t2, t3, t4⟩ := ht ha
  obtain ⟨rs, next, ep, jcr, jop, y1, y2⟩ := j
  dsimp only at *
  have ey : ∀ n j, JS[n]? = some (some j) → a = n → j = ⟨rs, next, ep, jcr, jop, y1, y2⟩ := by
    rintro n j hn rfl; rw [ha] at hn; cases hn; rfl
  rcases hj1 with ⟨rfl, hz1⟩ | ⟨w, rfl⟩ <;> rcases hj2 with ⟨rfl, hz2⟩ | ⟨w', rfl⟩
  all_goals
    try have t2 := t2 _ rfl
    try have t4 := t4 _ rfl
    simp [bxG, recI] at t1 t3
    rcases hs1 with ⟨rfl, rfl⟩ | ⟨w1, rfl, g1⟩ <;> rcases hs2 with ⟨rfl, h9⟩ | ⟨w2, rfl, g2⟩
    · simp [jobs, jouA, jouAR, dskB, rcV, rcO, dN, pvC, poC] at q1 q2
      simp [HS, psQ, pO, dskB, pvC, envA, boxA] at hs
      rw [b5_4e]
      simp [hs, hlt, r1, r2, t1, t2, t3, t4, q1, q2, refsQ_len]
      rw [← hQ]
      refine ⟨rfl, hd_ren rfl (renJ (f := F0) (g := F1) (f' := F2) (g' := F3) (nf := nfD) (p1 := (6, 2)) (p2 := (8, 2)) (rest := [(11, .int .i64 i), (13, .int .i64 a)]) ?_ (nf_std (.inl rfl) (.inl rfl) JS) x0 x1 _ (by simp))⟩
      refine ⟨by repeat (first | exact hz | refine nz_cons ?_ (by decide) | refine nz_pO ?_ (by first | decide | simp)), by simp [dskB, pvC], by simp, by simp, by simp [dskB, pvC], by simp, by simp, by simp, by simp,
        fun n j hn => ?_, fun n j hn => ?_, .inl rfl, .inl rfl⟩
      · by_cases han : a = n
        · have := ey n j hn han
          subst han this
          exact ⟨by simp [bxG, recI], fun w hw => by simp at hw; try subst hw; simp⟩
        · exact ⟨by simp [han, (ht hn).1], fun w hw => by simp [han, (ht hn).2.1 w hw]⟩
      · by_cases han : a = n
        · have := ey n j hn han
          subst han this
          exact ⟨by simp [bxG, recI], fun w hw => by simp at hw; try subst hw; simp⟩
        · exact ⟨by simp [han, (ht hn).2.2.1], fun w hw => by simp [han, (ht hn).2.2.2 w hw]⟩
    · exact absurd rfl g2
    · exact absurd h9 g1
    · simp [jobs, jouA, jouAR, dskB, rcV, rcO, dN, pvC, poC] at q1 q2
      simp [HS, psQ, pO, dskB, pvC, envA, boxA] at hs
      rw [b5_4e]
      simp [hs, hlt, r1, r2, t1, t2, t3, t4, q1, q2, refsQ_len]
      rw [← hQ]
      refine ⟨rfl, hd_ren rfl (renJ (f := F0) (g := F1) (f' := F2) (g' := F3) (nf := nfD) (p1 := (6, 2)) (p2 := (8, 2)) (rest := [(11, .int .i64 i), (13, .int .i64 a)]) ?_ (nf_std (.inl rfl) (.inl rfl) JS) x0 x1 _ (by simp))⟩
      refine ⟨by repeat (first | exact hz | refine nz_cons ?_ (by decide) | refine nz_pO ?_ (by first | decide | simp)), by simp [dskB, pvC], by simp, by simp, by simp [dskB, pvC], by simp, by simp, by simp, by simp,
        fun n j hn => ?_, fun n j hn => ?_, .inl rfl, .inl rfl⟩
      · by_cases han : a = n
        · have := ey n j hn han
          subst han this
          exact ⟨by simp [bxG, recI], fun w hw => by simp at hw; try subst hw; simp⟩
        · exact ⟨by simp [han, (ht hn).1], fun w hw => by simp [han, (ht hn).2.1 w hw]⟩
      · by_cases han : a = n
        · have := ey n j hn han
          subst han this
          exact ⟨by simp [bxG, recI], fun w hw => by simp at hw; try subst hw; simp⟩
        · exact ⟨by simp [han, (ht hn).2.2.1], fun w hw => by simp [han, (ht hn).2.2.2 w hw]⟩
end
end Go.Am

/- The law on acts: a record is appended, with success. -/
set_option linter.unusedVariables false
set_option linter.unusedSimpArgs false
set_option maxRecDepth 10000
namespace Go.Am
open Go.Proofs

attribute [local simp] gO_pO tlQ_low

section
variable {x0 x1 : Dat} {i : Nat} {atv K I : Int} {b : List UInt8} {keep : List Int} {v1 v2 : Nat} {du : List (List UInt8)} {pe : Pe} {cr op : Int} {sh1 sh2 : Option Nat} {vj vr : Nat} {JS : JL} {N m : Nat}

theorem sw_app_ok {a : Nat} {j : JJ} {D : List (List UInt8)} {nx : Nat} {po1 po2 : List Obj} (ha : JS[a]? = some (some j)) (hj1 : rcK j.rs j.r1) (hj2 : rcK j.rs j.r2) (hs1 : shOK sh1 pe) (hs2 : shOK sh2 pe) (hp1 : Stale sh1 po1) (hp2 : Stale sh2 po2) (hDl : D.length = du.length)
    (q1 : KJ 13 [.ref (0, 0) 0, .dat (Bs b)] (jobs (jouA (rcV j.rs j.r1) j.next j.ep cr op) v1 du cr op j.r1 j.rs sh1 pe) = some (.dat (.int .i64 0), jobs2 (fun x => jouA x nx j.ep cr op) v1 D cr op j.r1 (j.rs ++ [b]) po1))
    (q2 : KJ 29 [.ref (0, 0) 0, .dat (Bs b)] (jobs (jouAR (rcV j.rs j.r2) j.next j.ep cr op) v2 du cr op j.r2 j.rs sh2 pe) = some (.dat (.int .i64 0), jobs2 (fun x => jouAR x nx j.ep cr op) v2 D cr op j.r2 (j.rs ++ [b]) po2))
    (hcr : j.cr = cr) (hop : j.op = op) {s : St}
    (hs : hd [0, 1, 5, 7, 9, 10, 11, 12, 13, 79] [] s = some ⟨envA x0 x1 vj vr JS.length i [(12, .ref (13, 0) 0), (13, .dat (.int .i64 a)), (79, .dat (.int .i64 5))], pO (HS v1 v2 du pe cr op sh1 sh2 vj vr JS) (13, 0) (boxA 5 I b keep)⟩) :
    Ev (exec KJ b5_4 s) (swP x0 x1 i a v1 v2 D [] cr op none none vj vr (JS.set a (some ⟨j.rs ++ [b], nx, j.ep, cr, op, some (upV j.r1), some (upV j.r2)⟩))) := by
  have ht := @tlQ_get JS
  have hz := tlQ_nz JS
  have hlt : a < JS.length := by
    by_cases h : a < JS.length
    · exact h
    · rw [List.getElem?_eq_none (by omega)] at ha; cases ha
  have r1 := refsQ_at (f := F0) ha (by rw [refsQ_len]; exact hlt)
  have r2 := refsQ_at (f := F2) ha (by rw [refsQ_len]; exact hlt)
  obtain ⟨t1, t2, t3, t4⟩ := ht ha
  obtain ⟨rs, next, ep, jcr, jop, y1, y2⟩ := j
  dsimp only at *
  subst hcr hop
  generalize hj : (⟨rs ++ [b], nx, ep, jcr, jop, some (upV y1), some (upV y2)⟩ : JJ) = jn
  have e1 := refsQ_set (f := F0) (j' := jn) (i := 0) ha
  have e2 := refsQ_set (f := F2) (j' := jn) (i := 0) ha
  have e3 : (JS.set a (some jn)).length = JS.length := by simp
  have hN := nf_app (JS.set a (some jn)) a y1 y2
  generalize hQ : swP x0 x1 i a v1 v2 D [] jcr jop none none vj vr (JS.set a (some jn)) = Q
  rcases hj1 with ⟨rfl, hz1⟩ | ⟨w, rfl⟩ <;> rcases hj2 with ⟨rfl, hz2⟩ | ⟨w', rfl⟩
  all_goals
    try have t2 := t2 _ rfl
    try have t4 := t4 _ rfl
    simp [bxG, recI] at t1 t3
    rcases hs1 with ⟨rfl, rfl⟩ | ⟨w1, rfl, g1⟩ <;> rcases hs2 with ⟨rfl, h9⟩ | ⟨w2, rfl, g2⟩
    · have z1 : po1 = [] := by
        rcases hp1 with ⟨_, h⟩ | ⟨_, _, _, h8, _⟩
        · exact h
        · cases h8
      have z2 : po2 = [] := by
        rcases hp2 with ⟨_, h⟩ | ⟨_, _, _, h8, _⟩
        · exact h
        · cases h8
      subst z1 z2
      simp [jobs, jobs2, jouA, jouAR, dskB, rcV, rcO, dN, pvC, poC] at q1 q2
      simp [HS, psQ, pO, dskB, pvC, envA, boxA] at hs
      rw [b5_4e]
      simp [hs, hlt, r1, r2, t1, t2, t3, t4, q1, q2, refsQ_len]
      rw [← hQ]
      unfold swP
      rw [e3]
      refine ⟨rfl, hd_ren rfl (renJ (f := F0) (g := H1 a _) (f' := F2) (g' := H3 a _) (nf := nfA a) (p1 := (6, 2)) (p2 := (8, 2)) (rest := [(11, .int .i64 i), (13, .int .i64 a)]) ?_ hN x0 x1 _ (by simp))⟩
      refine ⟨by repeat (first | exact hz | refine nz_cons ?_ (by decide) | refine nz_pO ?_ (by first | decide | simp)), by simp [dskB, pvC, hDl], by simp, by simp, by simp [dskB, pvC, hDl], by simp, by simp, by simp [e1], by simp [e2],
        fun n j hn => ?_, fun n j hn => ?_, .inl rfl, .inl rfl⟩
      · rcases set_get hn with ⟨rfl, rfl⟩ | ⟨hne, hn⟩
        · subst hj
          exact ⟨by simp [bxG, recI, H1, upV], fun w hw => by simp [upV] at hw; subst hw; simp [H1]⟩
        · have hne' : ¬ n = a := fun e => hne e.symm
          exact ⟨by simp [H1, hne, hne', (ht hn).1], fun w hw => by simp [H1, hne, hne', (ht hn).2.1 w hw]⟩
      · rcases set_get hn with ⟨rfl, rfl⟩ | ⟨hne, hn⟩
        · subst hj
          exact ⟨by simp [bxG, recI, H3, upV], fun w hw => by simp [upV] at hw; subst hw; simp [H3]⟩
        · have hne' : ¬ n = a := fun e => hne e.symm
          exact ⟨by simp [H3, hne, hne', (ht hn).2.2.1], fun w hw => by simp [H3, hne, hne', (ht hn).2.2.2 w hw]⟩
    · exact absurd rfl g2
    · exact absurd h9 g1
    · obtain ⟨c1, l1, z1⟩ : ∃ c l, po1 = [.arr 2 c false l] := by
        rcases hp1 with ⟨h8, _⟩ | ⟨_, c, l, _, h⟩
        · cases h8
        · exact ⟨c, l, h⟩
      obtain ⟨c2, l2, z2⟩ : ∃ c l, po2 = [.arr 2 c false l] := by
        rcases hp2 with ⟨h8, _⟩ | ⟨_, c, l, _, h⟩
        · cases h8
        · exact ⟨c, l, h⟩
      subst z1 z2
      simp [jobs, jobs2, jouA, jouAR, dskB, rcV, rcO, dN, pvC, poC] at q1 q2
      simp [HS, psQ, pO, dskB, pvC, envA, boxA] at hs
      rw [b5_4e]
      simp [hs, hlt, r1, r2, t1, t2, t3, t4, q1, q2, refsQ_len]
      rw [← hQ]
      unfold swP
      rw [e3]
      refine ⟨rfl, hd_ren rfl (renJ (f := F0) (g := H1 a _) (f' := F2) (g' := H3 a _) (nf := nfA a) (p1 := (6, 2)) (p2 := (8, 2)) (rest := [(11, .int .i64 i), (13, .int .i64 a)]) ?_ hN x0 x1 _ (by simp))⟩
      refine ⟨by repeat (first | exact hz | refine nz_cons ?_ (by decide) | refine nz_pO ?_ (by first | decide | simp)), by simp [dskB, pvC, hDl], by simp, by simp, by simp [dskB, pvC, hDl], by simp, by simp, by simp [e1], by simp [e2],
        fun n j hn => ?_, fun n j hn => ?_, .inl rfl, .inl rfl⟩
      · rcases set_get hn with ⟨rfl, rfl⟩ | ⟨hne, hn⟩
        · subst hj
          exact ⟨by simp [bxG, recI, H1, upV], fun w hw => by simp [upV] at hw; subst hw; simp [H1]⟩
        · have hne' : ¬ n = a := fun e => hne e.symm
          exact ⟨by simp [H1, hne, hne', (ht hn).1], fun w hw => by simp [H1, hne, hne', (ht hn).2.1 w hw]⟩
      · rcases set_get hn with ⟨rfl, rfl⟩ | ⟨hne, hn⟩
        · subst hj
          exact ⟨by simp [bxG, recI, H3, upV], fun w hw => by simp [upV] at hw; subst hw; simp [H3]⟩
        · have hne' : ¬ n = a := fun e => hne e.symm
          exact ⟨by simp [H3, hne, hne', (ht hn).2.2.1], fun w hw => by simp [H3, hne, hne', (ht hn).2.2.2 w hw]⟩
end
end Go.Am

/- The law on acts: behind each act, the last record and the number of records. -/
set_option linter.unusedVariables false
set_option linter.unusedSimpArgs false
set_option maxRecDepth 10000
namespace Go.Am
open Go.Proofs

attribute [local simp] gO_pO tlQ_low

section
variable {x0 x1 : Dat} {i : Nat} {atv K I : Int} {b : List UInt8} {keep : List Int} {v1 v2 : Nat} {du : List (List UInt8)} {pe : Pe} {cr op : Int} {sh1 sh2 : Option Nat} {vj vr : Nat} {JS : JL} {N m : Nat}

def tlP (x0 x1 : Dat) (i : Nat) (v1 v2 : Nat) (du : List (List UInt8)) (pe : Pe) (cr op : Int) (sh1 sh2 : Option Nat) (vj vr : Nat) (JS : JL) (q : AEx × St) : Prop :=
  q.1 = .normal ∧ ∃ O, Lk O v1 v2 du pe cr op sh1 sh2 (6, 2) (8, 2) vj vr JS F0 F1 F2 F3 ∧ hd [0, 1, 5, 7, 9, 10, 11] [] q.2 = some ⟨envA x0 x1 vj vr JS.length i [], O⟩

theorem tl_low (h : ¬ 0 ≤ atv) :
    Ev (exec KJ k5_173 ⟨(173, .dat (.bool (decide (0 ≤ atv)))) :: (172, .dat (.int .i64 atv)) :: envA x0 x1 vj vr JS.length i [(13, .dat (.int .i64 atv))], HS v1 v2 du pe cr op sh1 sh2 vj vr JS⟩) (tlP x0 x1 i v1 v2 du pe cr op sh1 sh2 vj vr JS) := by
  rw [k5_173e]
  simp [h, envA]
  exact ⟨rfl, _, HS_lk, by simp [envA]⟩

theorem tl_nil {a : Nat} (ha : JS[a]? = some none) (hs1 : shOK sh1 pe) (hs2 : shOK sh2 pe) :
    Ev (exec KJ k5_173 ⟨(173, .dat (.bool (decide (0 ≤ (a : Int))))) :: (172, .dat (.int .i64 a)) :: envA x0 x1 vj vr JS.length i [(13, .dat (.int .i64 a))], HS v1 v2 du pe cr op sh1 sh2 vj vr JS⟩) (tlP x0 x1 i v1 v2 du pe cr op sh1 sh2 vj vr JS) := by
  have hlt : a < JS.length := by
    by_cases h : a < JS.length
    · exact h
    · rw [List.getElem?_eq_none (by omega)] at ha; cases ha
  have r1 := refsQ_at (f := F0) ha (by rw [refsQ_len]; exact hlt)
  have r2 := refsQ_at (f := F2) ha (by rw [refsQ_len]; exact hlt)
  have q5 := same_run [] []
  simp at q5
  have hL := @HS_lk v1 v2 du pe cr op sh1 sh2 vj vr JS
  rw [k5_173e]
  rcases hs1 with ⟨rfl, rfl⟩ | ⟨w1, rfl, g1⟩ <;> rcases hs2 with ⟨rfl, h9⟩ | ⟨w2, rfl, g2⟩
  · simp [envA, HS, psQ, dskB, pvC, hlt, r1, r2, last_n, rlast_n, len_n, rlen_n, q5, refsQ_len]
    exact ⟨rfl, _, hL, by simp [envA, HS, psQ, dskB, pvC]⟩
  · exact absurd rfl g2
  · exact absurd h9 g1
  · simp [envA, HS, psQ, dskB, pvC, hlt, r1, r2, last_n, rlast_n, len_n, rlen_n, q5, refsQ_len]
    exact ⟨rfl, _, hL, by simp [envA, HS, psQ, dskB, pvC]⟩

theorem tl_some {a : Nat} {j : JJ} (ha : JS[a]? = some (some j)) (hj : JOK N m j) (hi : m < 1000) (hs1 : shOK sh1 pe) (hs2 : shOK sh2 pe) :
    Ev (exec KJ k5_173 ⟨(173, .dat (.bool (decide (0 ≤ (a : Int))))) :: (172, .dat (.int .i64 a)) :: envA x0 x1 vj vr JS.length i [(13, .dat (.int .i64 a))], HS v1 v2 du pe cr op sh1 sh2 vj vr JS⟩) (tlP x0 x1 i v1 v2 du pe cr op sh1 sh2 vj vr JS) := by
  have ht := @tlQ_get JS
  have hz := tlQ_nz JS
  have hlt : a < JS.length := by
    by_cases h : a < JS.length
    · exact h
    · rw [List.getElem?_eq_none (by omega)] at ha; cases ha
  have r1 := refsQ_at (f := F0) ha (by rw [refsQ_len]; exact hlt)
  have r2 := refsQ_at (f := F2) ha (by rw [refsQ_len]; exact hlt)
  have q1 := last_p (v := v1) (du := du) (cr := cr) (op := op) (jcr := j.cr) (jop := j.op) (next := j.next) (ep := j.ep) hj.k1 hs1 (by have := hj.len; omega) (fun d hd => by have := hj.small d hd; omega)
  have q2 := rlast_p (v := v2) (du := du) (cr := cr) (op := op) (jcr := j.cr) (jop := j.op) (next := j.next) (ep := j.ep) hj.k2 hs2 (by have := hj.len; omega) (fun d hd => by have := hj.small d hd; omega)
  have q3 := len_p (v := v1) (du := du) (cr := cr) (op := op) (jcr := j.cr) (jop := j.op) (next := j.next) (ep := j.ep) hj.k1 hs1
  have q4 := rlen_p (v := v2) (du := du) (cr := cr) (op := op) (jcr := j.cr) (jop := j.op) (next := j.next) (ep := j.ep) hj.k2 hs2
  have q5 := same_run (lastB j.rs) (lastB j.rs)
  rw [show (lastB j.rs == lastB j.rs) = true from by simp] at q5
  have hj1 := hj.k1
  have hj2 := hj.k2
  obtain ⟨t1, t2, t3, t4⟩ := ht ha
  clear hj
  obtain ⟨rs, next, ep, jcr, jop, y1, y2⟩ := j
  dsimp only at *
  generalize lastB rs = X at *
  generalize hE : rs.isEmpty = E at *
  have ey : ∀ n j, JS[n]? = some (some j) → a = n → j = ⟨rs, next, ep, jcr, jop, y1, y2⟩ := by
    rintro n j hn rfl; rw [ha] at hn; cases hn; rfl
  generalize hQ : tlP x0 x1 i v1 v2 du pe cr op sh1 sh2 vj vr JS = Q
  rcases hj1 with ⟨rfl, hz1⟩ | ⟨w, rfl⟩ <;> rcases hj2 with ⟨rfl, hz2⟩ | ⟨w', rfl⟩
  all_goals
    try have t2 := t2 _ rfl
    try have t4 := t4 _ rfl
    simp [bxG, recI] at t1 t3
    rcases hs1 with ⟨rfl, rfl⟩ | ⟨w1, rfl, g1⟩ <;> rcases hs2 with ⟨rfl, h9⟩ | ⟨w2, rfl, g2⟩
    · simp [jobs, jouA, jouAR, dskB, rcV, rcO, dN, pvC, poC] at q1 q2 q3 q4
      rw [k5_173e]
      simp [envA, HS, psQ, dskB, pvC, hlt, r1, r2, t1, t2, t3, t4, q1, q2, q3, q4, q5, refsQ_len]
      rw [← hQ]
      refine ⟨rfl, _, ?_, rfl⟩
      refine ⟨by repeat (first | exact hz | refine nz_cons ?_ (by decide) | refine nz_pO ?_ (by first | decide | simp)), by simp [dskB, pvC], by simp, by simp, by simp [dskB, pvC], by simp, by simp, by simp, by simp,
        fun n j hn => ?_, fun n j hn => ?_, .inl rfl, .inl rfl⟩
      · by_cases han : a = n
        · have := ey n j hn han
          subst han this
          exact ⟨by simp [bxG, recI], fun w hw => by simp at hw; try subst hw; simp⟩
        · exact ⟨by simp [han, (ht hn).1], fun w hw => by simp [han, (ht hn).2.1 w hw]⟩
      · by_cases han : a = n
        · have := ey n j hn han
          subst han this
          exact ⟨by simp [bxG, recI], fun w hw => by simp at hw; try subst hw; simp⟩
        · exact ⟨by simp [han, (ht hn).2.2.1], fun w hw => by simp [han, (ht hn).2.2.2 w hw]⟩
    · exact absurd rfl g2
    · exact absurd h9 g1
    · simp [jobs, jouA, jouAR, dskB, rcV, rcO, dN, pvC, poC] at q1 q2 q3 q4
      rw [k5_173e]
      simp [envA, HS, psQ, dskB, pvC, hlt, r1, r2, t1, t2, t3, t4, q1, q2, q3, q4, q5, refsQ_len]
      rw [← hQ]
      refine ⟨rfl, _, ?_, rfl⟩
      refine ⟨by repeat (first | exact hz | refine nz_cons ?_ (by decide) | refine nz_pO ?_ (by first | decide | simp)), by simp [dskB, pvC], by simp, by simp, by simp [dskB, pvC], by simp, by simp, by simp, by simp,
        fun n j hn => ?_, fun n j hn => ?_, .inl rfl, .inl rfl⟩
      · by_cases han : a = n
        · have := ey n j hn han
          subst han this
          exact ⟨by simp [bxG, recI], fun w hw => by simp at hw; try subst hw; simp⟩
        · exact ⟨by simp [han, (ht hn).1], fun w hw => by simp [han, (ht hn).2.1 w hw]⟩
      · by_cases han : a = n
        · have := ey n j hn han
          subst han this
          exact ⟨by simp [bxG, recI], fun w hw => by simp at hw; try subst hw; simp⟩
        · exact ⟨by simp [han, (ht hn).2.2.1], fun w hw => by simp [han, (ht hn).2.2.2 w hw]⟩
end
end Go.Am

/- The law on acts: any act, and the loop. -/
set_option linter.unusedVariables false
set_option linter.unusedSimpArgs false
set_option maxRecDepth 10000
namespace Go.Am
open Go.Proofs

theorem JOK.mono {N i i' : Nat} {j : JJ} (h : JOK N i j) (hi : i ≤ i') : JOK N i' j := ⟨h.k1, h.k2, by have := h.len; omega, h.small, h.next, h.ep⟩

structure AInv (N i : Nat) (du : List (List UInt8)) (pe : Pe) (cr op : Int) (sh1 sh2 : Option Nat) (JS : JL) : Prop where
  d : DOK N du pe i
  c1 : 0 ≤ cr
  c2 : cr ≤ i
  o1 : 0 ≤ op
  o2 : op ≤ i
  s1 : shOK sh1 pe
  s2 : shOK sh2 pe
  l : JS.length ≤ i
  j : ∀ (n : Nat) (x : JJ), JS[n]? = some (some x) → JOK N i x

theorem setAll_mem : ∀ (W : List (List UInt8)) (du : List (List UInt8)) (i : Nat), (∀ d ∈ du, d.length = 64) → (∀ d ∈ W, d.length = 64) → ∀ d ∈ setAll du i W, d.length = 64
  | [], du, i, h, _ => h
  | w :: W, du, i, h, hw => by
    rw [setAll]
    refine setAll_mem W _ _ (fun d hd => ?_) (fun d hd => hw d (by simp [hd]))
    rcases List.mem_or_eq_of_mem_set hd with hd | rfl
    · exact h d hd
    · exact hw d (by simp)

theorem DOK.mono {N m m' : Nat} {du : List (List UInt8)} {pe : Pe} (h : DOK N du pe m) (hm : m ≤ m') : DOK N du pe m' := ⟨h.len, h.n4, h.h64, h.p64, h.pin, Nat.le_trans h.pl hm⟩

section
variable {x0 x1 : Dat} {i : Nat} {atv K I : Int} {b : List UInt8} {keep : List Int} {v1 v2 : Nat} {du : List (List UInt8)} {pe : Pe} {cr op : Int} {sh1 sh2 : Option Nat} {vj vr : Nat} {JS : JL} {N m : Nat}

/-- where an act leads -/
def stepP (x0 x1 : Dat) (i N : Nat) (atv : Int) (v1 v2 : Nat) (q : AEx × St) : Prop :=
  ∃ du pe cr op sh1 sh2 vj vr JS, AInv N (i + 1) du pe cr op sh1 sh2 JS ∧ (0 ≤ atv → atv.toNat < JS.length) ∧ swP x0 x1 i atv v1 v2 du pe cr op sh1 sh2 vj vr JS q

theorem sw_all (h : AInv N i du pe cr op sh1 sh2 JS) (hi : i < 30) (hb : b.length ≤ 400) (hk : keep.length ≤ 40) {s : St}
    (hs : hd [0, 1, 5, 7, 9, 10, 11, 12, 13, 79] [] s = some ⟨envA x0 x1 vj vr JS.length i [(12, .ref (13, 0) 0), (13, .dat (.int .i64 (atI JS.length I))), (79, .dat (.int .i64 K))], pO (HS v1 v2 du pe cr op sh1 sh2 vj vr JS) (13, 0) (boxA K I b keep)⟩) :
    Ev (exec KJ b5_4 s) (stepP x0 x1 i N (atI JS.length I) v1 v2) := by
  have hc2 := h.c2
  have ho2 := h.o2
  have hl := h.l
  have hat : 0 ≤ atI JS.length I → (atI JS.length I).toNat < JS.length := by unfold atI; omega
  have hup : AInv N (i + 1) du pe cr op sh1 sh2 JS := ⟨h.d.mono (by omega), h.c1, by omega, h.o1, by omega, h.s1, h.s2, by omega, fun n j hn => (h.j n j hn).mono (by omega)⟩
  by_cases h0 : K = 0
  · subst h0
    refine Ev.mono (sw_write h.d (by omega) h.s1 h.s2 (by omega) hs) ?_
    rintro q ⟨sh1', sh2', a, b', c⟩
    exact ⟨_, _, _, _, _, _, _, _, _, ⟨wr_ok h.d I _, h.c1, by omega, h.o1, by omega, a, b', by omega, fun n j hn => (h.j n j hn).mono (by omega)⟩, hat, c⟩
  by_cases h2 : K = 2
  · subst h2
    refine Ev.mono (sw_sync h.d (by omega) h.s1 h.s2 hs) ?_
    intro q c
    exact ⟨_, _, _, _, _, _, _, _, _, ⟨(sync_ok h.d).mono (by omega), h.c1, by omega, h.o1, by omega, .inl ⟨rfl, rfl⟩, .inl ⟨rfl, rfl⟩, by omega, fun n j hn => (h.j n j hn).mono (by omega)⟩, hat, c⟩
  by_cases h3 : K = 3
  · subst h3
    refine Ev.mono (sw_crash h.d (by omega) h.s1 h.s2 (by omega) h.c1 (by omega) hs) ?_
    rintro q (⟨_, c⟩ | ⟨_, c⟩)
    · exact ⟨_, _, _, _, _, _, _, _, _, ⟨(crash_ok h.d keep).mono (by omega), by have := h.c1; omega, by omega, h.o1, by omega, .inl ⟨rfl, rfl⟩, .inl ⟨rfl, rfl⟩, by omega, fun n j hn => (h.j n j hn).mono (by omega)⟩, hat, c⟩
    · exact ⟨_, _, _, _, _, _, _, _, _, hup, hat, c⟩
  by_cases h4 : K = 4
  · subst h4
    by_cases hM : mostB (allC du pe) 0 = 4294967295
    · refine Ev.mono (sw_full h.d (by omega) h.s1 h.s2 hM (by omega) hs) ?_
      intro q c
      refine ⟨_, _, _, _, _, _, _, _, _, ⟨h.d.mono (by omega), h.c1, by omega, h.o1, by omega, h.s1, h.s2, ?_, fun n j hn => (h.j n j (snoc_none hn)).mono (by omega)⟩, fun x => ?_, c⟩
      · simp; omega
      · have := hat x; simp; omega
    · refine Ev.mono (sw_open h.d (by omega) h.s1 h.s2 hM (by omega) h.o1 (by omega) hs) ?_
      rintro q ⟨j, hj, c⟩
      refine ⟨_, _, _, _, _, _, _, _, _, ⟨h.d.mono (by omega), h.c1, by omega, by have := h.o1; omega, by omega, h.s1, h.s2, ?_, fun n j' hn => ?_⟩, fun x => ?_, c⟩
      · simp; omega
      · rcases snoc_some hn with ⟨_, hn⟩ | ⟨_, rfl⟩
        · exact (h.j n j' hn).mono (by omega)
        · exact hj.mono (by omega)
      · have := hat x; simp; omega
  by_cases h5 : K = 5
  · subst h5
    by_cases ha : 0 ≤ atI JS.length I
    · have hlt := hat ha
      have hat' := hat
      obtain ⟨a, ea⟩ : ∃ a : Nat, atI JS.length I = a := ⟨(atI JS.length I).toNat, by omega⟩
      rw [ea] at hs hlt hat' ⊢
      rw [show ((a : Int)).toNat = a from by omega] at hlt
      obtain ⟨x, hx⟩ := get_at JS hlt
      have ho1 := h.o1
      have hc1 := h.c1
      cases x with
      | none =>
        refine Ev.mono (sw_app_nil hx h.s1 h.s2 hs) ?_
        intro q c
        exact ⟨_, _, _, _, _, _, _, _, _, hup, hat', c⟩
      | some j =>
        have hj := h.j a j hx
        have hjl := hj.len
        have hlen := h.d.len
        have hn4 := h.d.n4
        have hjn := hj.next
        by_cases hcr : cr = j.cr
        · by_cases hop : op = j.op
          · by_cases hf : j.next + (imageB b j.rs.length j.ep).length ≤ du.length
            · obtain ⟨po1, z1, q1⟩ := appP_ok (v := v1) (cr := cr) (op := op) hj.k1 h.s1 (by rw [hlen]; exact h.d.pin) (by have := h.d.pl; omega) (by omega) (by omega) hj.ep (by omega : b.length < 100000) (by omega) hf
              obtain ⟨po2, z2, q2⟩ := rappP_ok (v := v2) (cr := cr) (op := op) hj.k2 h.s2 (by rw [hlen]; exact h.d.pin) (by have := h.d.pl; omega) (by omega) (by omega) hj.ep (by omega : b.length < 100000) (by omega) hf
              refine Ev.mono (sw_app_ok hx hj.k1 hj.k2 h.s1 h.s2 z1 z2 (by rw [setAll_len, syncS_len]) q1 q2 hcr.symm hop.symm hs) ?_
              intro q c
              refine ⟨_, _, _, _, _, _, _, _, _, ⟨⟨by rw [setAll_len, syncS_len, hlen], hn4, setAll_mem _ _ _ (syncS_mem pe du h.d.h64 h.d.p64) (imageB_64 _ _ _), by simp, by simp, by simp⟩, h.c1, by omega, h.o1, by omega, .inl ⟨rfl, rfl⟩, .inl ⟨rfl, rfl⟩, ?_, fun n j' hn => ?_⟩, fun _ => ?_, c⟩
              · rw [List.length_set]; omega
              · rcases set_get hn with ⟨rfl, rfl⟩ | ⟨_, hn⟩
                · refine ⟨.inr ⟨_, rfl⟩, .inr ⟨_, rfl⟩, ?_, fun d hd => ?_, ?_, hj.ep⟩
                  · simp; omega
                  · rcases List.mem_append.1 hd with hd | hd
                    · exact hj.small d hd
                    · simp at hd; subst hd; omega
                  · dsimp only; omega
                · exact (h.j n j' hn).mono (by omega)
              · rw [List.length_set]; omega
            · have q1 := appP_full (v := v1) (cr := cr) (op := op) hj.k1 h.s1 (by omega) (by omega) hj.ep (by omega : b.length < 100000) (by omega) hf
              have q2 := rappP_full (v := v2) (cr := cr) (op := op) hj.k2 h.s2 (by omega) (by omega) hj.ep (by omega : b.length < 100000) (by omega) hf
              subst hcr hop
              refine Ev.mono (sw_app_no hx hj.k1 hj.k2 h.s1 h.s2 q1 q2 hs) ?_
              intro q c
              exact ⟨_, _, _, _, _, _, _, _, _, hup, hat', c⟩
          · have q1 := appP_state (v := v1) (du := du) (cr := cr) (op := op) (jop := j.op) (next := j.next) (ep := j.ep) (b := b) hj.k1 h.s1 hop
            have q2 := rappP_state (v := v2) (du := du) (cr := cr) (op := op) (jop := j.op) (next := j.next) (ep := j.ep) (b := b) hj.k2 h.s2 hop
            subst hcr
            refine Ev.mono (sw_app_no hx hj.k1 hj.k2 h.s1 h.s2 q1 q2 hs) ?_
            intro q c
            exact ⟨_, _, _, _, _, _, _, _, _, hup, hat', c⟩
        · have q1 := appP_crash (v := v1) (du := du) (cr := cr) (op := op) (jcr := j.cr) (jop := j.op) (next := j.next) (ep := j.ep) (b := b) hj.k1 h.s1 hcr
          have q2 := rappP_crash (v := v2) (du := du) (cr := cr) (op := op) (jcr := j.cr) (jop := j.op) (next := j.next) (ep := j.ep) (b := b) hj.k2 h.s2 hcr
          refine Ev.mono (sw_app_no hx hj.k1 hj.k2 h.s1 h.s2 q1 q2 hs) ?_
          intro q c
          exact ⟨_, _, _, _, _, _, _, _, _, hup, hat', c⟩
    · refine Ev.mono (sw_app_low ha h.s1 h.s2 hs) ?_
      intro q c
      exact ⟨_, _, _, _, _, _, _, _, _, hup, hat, c⟩
  refine Ev.mono (sw_other h0 h2 h3 h4 h5 h.s1 h.s2 hs) ?_
  intro q c
  exact ⟨_, _, _, _, _, _, _, _, _, hup, hat, c⟩

theorem tl_all (h : AInv N (i + 1) du pe cr op sh1 sh2 JS) (hi : i < 30) (hat : 0 ≤ atv → atv.toNat < JS.length) :
    Ev (exec KJ k5_173 ⟨(173, .dat (.bool (decide (0 ≤ atv)))) :: (172, .dat (.int .i64 atv)) :: envA x0 x1 vj vr JS.length i [(13, .dat (.int .i64 atv))], HS v1 v2 du pe cr op sh1 sh2 vj vr JS⟩) (tlP x0 x1 i v1 v2 du pe cr op sh1 sh2 vj vr JS) := by
  by_cases ha : 0 ≤ atv
  · have hlt := hat ha
    obtain ⟨a, rfl⟩ : ∃ a : Nat, atv = a := ⟨atv.toNat, by omega⟩
    rw [show ((a : Int)).toNat = a from by omega] at hlt
    obtain ⟨x, hx⟩ := get_at JS hlt
    cases x with
    | none => exact tl_nil hx h.s1 h.s2
    | some j =>
      have hj := h.j a j hx
      exact tl_some hx hj (by omega) h.s1 h.s2
  · exact tl_low ha
end

theorem HS_13 {v1 v2 : Nat} {du : List (List UInt8)} {pe : Pe} {cr op : Int} {sh1 sh2 : Option Nat} {vj vr : Nat} {JS : JL} : gO (HS v1 v2 du pe cr op sh1 sh2 vj vr JS) (13, 0) = none := by
  cases sh1 <;> cases sh2 <;> simp [HS, psQ, tlQ_low]
end Go.Am

/- The law on acts: its loop. -/
set_option linter.unusedVariables false
set_option linter.unusedSimpArgs false
set_option maxRecDepth 10000
namespace Go.Am
open Go.Proofs

attribute [local simp] gO_pO

theorem pO_pO : ∀ (s : Store) (i : Id) (a b : Obj), pO (pO s i a) i b = pO s i b
  | [], i, a, b => by simp [pO]
  | (j, o) :: r, i, a, b => by
    simp only [pO]
    split
    · simp [pO]
    · rename_i h
      simp only [pO]
      rw [if_neg h, pO_pO r]

theorem rest0 (x0 x1 : Dat) (a5 a7 a9 a10 a11 : AVal) (tl : Env) : restrict [0, 1, 5, 7, 9, 10, 11] ((0, .dat x0) :: (1, .dat x1) :: (5, a5) :: (7, a7) :: (9, a9) :: (10, a10) :: (11, a11) :: tl) = [(0, .dat x0), (1, .dat x1), (5, a5), (7, a7), (9, a9), (10, a10), (11, a11)] := rfl

def endP (N : Nat) (x0 : Dat) (v1 v2 : Nat) (q : AEx × St) : Prop := q.1 = .exit 0 ∧ ∃ du pe cr op sh1 sh2 vj vr JS, AInv N 30 du pe cr op sh1 sh2 JS ∧
  hd [0, 5, 7] [] q.2 = some ⟨[(0, .dat x0), (5, .ref (6, 0) 0), (7, .ref (8, 0) 0)], HS v1 v2 du pe cr op sh1 sh2 vj vr JS⟩

theorem AInv.mono {N i i' : Nat} {du : List (List UInt8)} {pe : Pe} {cr op : Int} {sh1 sh2 : Option Nat} {JS : JL} (h : AInv N i du pe cr op sh1 sh2 JS) (hi : i ≤ i') : AInv N i' du pe cr op sh1 sh2 JS :=
  ⟨h.d.mono hi, h.c1, by have := h.c2; omega, h.o1, by have := h.o2; omega, h.s1, h.s2, Nat.le_trans h.l hi, fun n x hn => (h.j n x hn).mono hi⟩

set_option maxHeartbeats 1000000 in
theorem acts_loop (N : Nat) (n0 : Int) (v1 v2 : Nat) : ∀ (rest pre : List Act) (du : List (List UInt8)) (pe : Pe) (cr op : Int) (sh1 sh2 : Option Nat) (vj vr : Nat) (JS : JL) (s : St), pre.length + rest.length ≤ 30 → smallA rest = true → AInv N pre.length du pe cr op sh1 sh2 JS →
    hd [0, 1, 5, 7, 9, 10, 11] [1000000, 1000, 9, 10, 5, 7] s = some ⟨envA (.int .i64 n0) (.sl ((pre ++ rest).map Ac)) vj vr JS.length pre.length [], HS v1 v2 du pe cr op sh1 sh2 vj vr JS⟩ →
    Ev (loopLim (exec KJ l5_1) s) (endP N (.int .i64 n0) v1 v2) := by
  intro rest
  induction rest with
  | nil =>
    intro pre du pe cr op sh1 sh2 vj vr JS s hl hsm hI hs
    apply ev_loop
    unfold envA at hs
    have hI30 := hI.mono (i' := 30) (by simp at hl; omega)
    simp [hs]
    exact ⟨rfl, du, pe, cr, op, sh1, sh2, vj, vr, JS, hI30, rfl⟩
  | cons x rest ih =>
    intro pre du pe cr op sh1 sh2 vj vr JS s hl hsm hI hs
    apply ev_loop
    rw [List.length_cons] at hl
    obtain ⟨K, I, b, keep⟩ := x
    simp only [smallA, List.all_cons, Bool.and_eq_true, decide_eq_true_eq] at hsm
    obtain ⟨⟨hb, hkl⟩, hsm⟩ := hsm
    have hx : Ix pre.length := by unfold Ix; omega
    have ih2 := ih (pre ++ [(K, I, b, keep)])
    have e1 : pre ++ (K, I, b, keep) :: rest = (pre ++ [(K, I, b, keep)]) ++ rest := by simp
    have eL : (pre ++ [(K, I, b, keep)]).length = pre.length + 1 := by simp
    rw [← e1, eL] at ih2
    have hsw := fun s h => sw_all (x0 := .int .i64 n0) (x1 := .sl ((pre ++ (K, I, b, keep) :: rest).map Ac)) (v1 := v1) (v2 := v2) (vj := vj) (vr := vr) (I := I) (K := K) hI (by omega) hb hkl (s := s) h
    have h13 : gO (HS v1 v2 du pe cr op sh1 sh2 vj vr JS) (13, 0) = none := HS_13
    have hJl := hI.l
    have hatl := fun s h => at_loop (.int .i64 n0) (.sl ((pre ++ (K, I, b, keep) :: rest).map Ac)) (.ref (6, 0) 0) (.ref (8, 0) 0) (.rsl (11, 0) vr 1 0 JS.length) vj JS.length pre.length K I b keep (pO (HS v1 v2 du pe cr op sh1 sh2 vj vr JS) (13, 0) (boxA K I b keep)) (by omega) (by rw [gO_pO, if_pos rfl]; rfl) JS.length 0 s (by omega) (by omega) h
    generalize hQ : endP N (.int .i64 n0) v1 v2 = Q at ih2 ⊢
    unfold envA at hs
    simp [hs, hx, h13, pO_pO]
    simp only [ev_bnd_iff]
    refine Ev.mono (hatl _ (by simp [boxA])) ?_
    rintro ⟨_, s⟩ ⟨rfl, hs⟩
    dsimp only at hs
    simp [hs, boxA]
    simp only [ev_bnd_iff]
    refine Ev.mono (hsw _ (by simp [envA, boxA])) ?_
    rintro ⟨_, s⟩ ⟨du', pe', cr', op', sh1', sh2', vj', vr', JS', hI', hat', rfl, hs⟩
    dsimp only at hs
    unfold envA at hs
    simp [hs]
    refine Ev.mono (tl_all hI' (by omega) hat') ?_
    rintro ⟨_, s⟩ ⟨rfl, O, hO, hs⟩
    dsimp only at hs
    unfold envA at hs
    simp [hs, hx]
    have ex1 : List.map Ac pre ++ Dat.agg [Dat.int IntKind.i64 K, Dat.int IntKind.i64 I, Dat.sl (List.map B b), Dat.sl (List.map I64 keep)] :: List.map Ac rest = (pre ++ (K, I, b, keep) :: rest).map Ac := by simp
    rw [ex1]
    exact Ev.mono (ih2 du' pe' cr' op' sh1' sh2' vj' vr' JS' _ (by omega) hsm hI' (hd_ren rfl (renJ hO (nf_std (.inl rfl) (.inl rfl) JS') (.int .i64 n0) (.sl ((pre ++ (K, I, b, keep) :: rest).map Ac)) [(11, .int .i64 (pre.length + 1))] _ (by simp)))) (fun _ h => h)
end Go.Am

/- The law JournalDisks, walked to its end. -/
set_option linter.unusedVariables false
set_option linter.unusedSimpArgs false
set_option maxRecDepth 10000
namespace Go.Am
open Go.Proofs

theorem nils_loop : ∀ (rest pre : List Act) (s : St), pre.length + rest.length ≤ 30 → smallA rest = true →
    hd [1, 5, 7, 9] [1, 5, 7] s = some ⟨[(1, .dat (.sl ((pre ++ rest).map Ac))), (5, .nilp), (7, .nilp), (9, .dat (.int .i64 pre.length))], []⟩ →
    Ev (loopLim (exec KJ l4_0) s) fun q => q.1 = .exit 0 := by
  intro rest
  induction rest with
  | nil =>
    intro pre s hl hsm hs
    apply ev_loop
    simp [hs]
  | cons x rest ih =>
    intro pre s hl hsm hs
    apply ev_loop
    rw [List.length_cons] at hl
    obtain ⟨kind, i, b, keep⟩ := x
    simp only [smallA, List.all_cons, Bool.and_eq_true, decide_eq_true_eq] at hsm
    obtain ⟨⟨hb, hkl⟩, hsm⟩ := hsm
    have hx : Ix pre.length := by unfold Ix; omega
    have ih2 := ih (pre ++ [(kind, i, b, keep)])
    have e1 : pre ++ (kind, i, b, keep) :: rest = (pre ++ [(kind, i, b, keep)]) ++ rest := by simp
    rw [← e1, show (pre ++ [(kind, i, b, keep)]).length = pre.length + 1 from by simp] at ih2
    have hsame := same_run [] []
    rw [show (([] : List UInt8) == []) = true from rfl] at hsame
    simp at hsame
    have f1 := read_nil i
    have f2 := rread_nil i
    have f3 := pending_nil
    have f4 := rpending_nil
    generalize hQ : (fun q : AEx × St => q.1 = AEx.exit 0) = Q at ih2 ⊢
    by_cases hk2 : kind = 2
    · subst hk2
      simp [hs, hx, sync_nil, rsync_nil, f1, f2, f3, f4, hsame]
      refine Ev.mono (ih2 _ (by omega) hsm (by simp)) (fun _ h => h)
    · by_cases hk0 : kind = 0
      · subst hk0
        by_cases h3 : b.length = 3
        · have h3' : (b.length : Int) = 3 := by omega
          simp [hs, hx, write_nil, rwrite_nil, f1, f2, f3, f4, hsame, h3, h3']
          refine Ev.mono (ih2 _ (by omega) hsm (by simp)) (fun _ h => h)
        · have h3' : ¬ (b.length : Int) = 3 := by omega
          have hsec := sector_run b (by omega)
          generalize b.take 64 ++ List.replicate (64 - b.length) 0 = b' at hsec
          simp [hs, hx, write_nil, rwrite_nil, f1, f2, f3, f4, hsame, h3, h3', hsec]
          refine Ev.mono (ih2 _ (by omega) hsm (by simp)) (fun _ h => h)
      · by_cases hk3 : kind = 3
        · subst hk3
          simp [hs, hx, crash_nil, rcrash_nil, f1, f2, f3, f4, hsame]
          refine Ev.mono (ih2 _ (by omega) hsm (by simp)) (fun _ h => h)
        · simp [hs, hx, f1, f2, f3, f4, hsame, hk0, hk2, hk3]
          refine Ev.mono (ih2 _ (by omega) hsm (by simp)) (fun _ h => h)

theorem dok_zero (n : Nat) (h : n ≤ 4096) : DOK n (List.replicate n zeroS) [] 0 :=
  ⟨by simp, h, fun d hd => by rw [List.eq_of_mem_replicate hd]; rfl, by simp, by simp, by simp⟩

theorem journalDisks_run (lives : KJ 8 [] [] = some (.dat (.bool true), [])) (n : Int) (l : List Act) : KJ 4 [.dat (.int .i64 n), .dat (.sl (l.map Ac))] [] = some (.dat (.bool true), []) := by
  refine callT_ev (fn := fn4) rfl rfl ?_
  have hsm := small_run l n
  by_cases hc : (decide (l.length ≤ 30) && decide (n ≤ 20) && smallA l) = true
  · rw [hc] at hsm
    simp only [Bool.and_eq_true, decide_eq_true_eq] at hc
    obtain ⟨⟨hl, hn⟩, hsa⟩ := hc
    by_cases h1 : 1 ≤ n
    · obtain ⟨k, rfl⟩ : ∃ k : Nat, n = k := ⟨n.toNat, by omega⟩
      obtain ⟨v1, hnd⟩ := newDisk_run k (by omega) (by omega)
      obtain ⟨v2, hrnd⟩ := rnewDisk_run k (by omega) (by omega)
      have hlp := fun s h => disks_loop k l [] v1 v2 0 (List.replicate k zeroS) 0 none none [] s (by simpa using hl) hsa (dok_zero k (by omega)) (by omega) (by omega) (by simp) (.inl ⟨rfl, rfl⟩) (.inl ⟨rfl, rfl⟩) h
      generalize List.replicate k zeroS = Z at *
      simp [dsk, dskB] at hnd hrnd
      simp [runFun_eq, hsm, hnd, hrnd]
      simp only [ev_bnd_iff]
      refine Ev.mono (hlp _ (by simp [dls, dskB, pvC, psL])) ?_
      rintro ⟨_, ⟨env, objs⟩⟩ rfl
      simp [lives]
    · have h2 : n < 1 ∨ 4096 < n := .inl (by omega)
      have hlp := fun s h => nils_loop l [] s (by simpa using hl) hsa h
      simp [runFun_eq, hsm, newDisk_out h2, rnewDisk_out h2]
      simp only [ev_bnd_iff]
      refine Ev.mono (hlp _ (by simp)) ?_
      rintro ⟨_, ⟨env, objs⟩⟩ rfl
      simp [lives]
  · rw [Bool.not_eq_true] at hc
    rw [hc] at hsm
    simp [runFun_eq, hsm, lives]
end Go.Am

/- The law JournalActs, walked. -/
set_option linter.unusedVariables false
set_option linter.unusedSimpArgs false
set_option maxRecDepth 10000
namespace Go.Am
open Go.Proofs

/-- both disks alone -/
def DS (v1 v2 : Nat) (du : List (List UInt8)) (pe : Pe) (cr op : Int) (sh1 sh2 : Option Nat) : Store :=
  ((6, 0), dskB (.rsl (6, 1) v1 1 0 du.length) (pvC (6, 2) sh1 pe) cr op) :: ((8, 0), dskB (.rsl (8, 1) v2 1 0 du.length) (pvC (8, 2) sh2 pe) cr op) ::
    (((6, 1), .arr 1 v1 false (du.map Bs)) :: (psQ (6, 2) pe sh1 ++ ((8, 1), .arr 1 v2 false (du.map Bs)) :: psQ (8, 2) pe sh2))

theorem filt0 {s : Store} (h : ∀ p ∈ s, p.1.1 ≠ 0) : (s.map (·.1)).filter (fun i => i.1 == 0) = [] := by
  rw [List.filter_eq_nil_iff]
  intro i hi
  obtain ⟨p, hp, rfl⟩ := List.mem_map.1 hi
  simpa using h p hp

theorem DS_hd {v1 v2 : Nat} {du : List (List UInt8)} {pe : Pe} {cr op : Int} {sh1 sh2 : Option Nat} {vj vr : Nat} {JS : JL} (x0 x1 : Dat) :
    dropE [5, 7] ⟨[(0, .dat x0), (5, .ref (6, 0) 0), (7, .ref (8, 0) 0), (25, .dat x1)], HS v1 v2 du pe cr op sh1 sh2 vj vr JS⟩ = some ⟨[(0, .dat x0), (5, .ref (6, 0) 0), (7, .ref (8, 0) 0), (25, .dat x1)], DS v1 v2 du pe cr op sh1 sh2⟩ := by
  have hf := filt0 (HS_nz (v1 := v1) (v2 := v2) (du := du) (pe := pe) (cr := cr) (op := op) (sh1 := sh1) (sh2 := sh2) (vj := vj) (vr := vr) (JS := JS))
  have e5 : ¬ 5 = 1000000 := by omega
  simp only [dropE, e5, if_false, hf, List.nil_append]
  cases sh1 <;> cases sh2 <;> simp [HS, DS, psQ, dskB, pvC]

theorem last_loop (N : Nat) (v1 v2 : Nat) (du : List (List UInt8)) (pe : Pe) (cr op : Int) (sh1 sh2 : Option Nat) (hD : DOK N du pe 30) (hs1 : shOK sh1 pe) (hs2 : shOK sh2 pe) : ∀ (m k : Nat) (s : St), k + m = N →
    hd [0, 5, 7, 25] [5, 7] s = some ⟨[(0, .dat (.int .i64 N)), (5, .ref (6, 0) 0), (7, .ref (8, 0) 0), (25, .dat (.int .i64 k))], DS v1 v2 du pe cr op sh1 sh2⟩ →
    Ev (loopLim (exec KJ l5_2) s) fun q => q.1 = .exit 5 := by
  intro m
  induction m with
  | zero =>
    intro k s hk hs
    apply ev_loop
    have : k = N := by omega
    subst this
    rcases hs1 with ⟨rfl, rfl⟩ | ⟨w1, rfl, g1⟩ <;> rcases hs2 with ⟨rfl, h9⟩ | ⟨w2, rfl, g2⟩ <;> simp [hs, DS, psQ, dskB, pvC]
  | succ m ih =>
    intro k s hk hs
    apply ev_loop
    have hlen := hD.len
    have hn4 := hD.n4
    have hlt : (k : Int) < N := by omega
    have hlt' : k < N := by omega
    have hx : Ix k := by unfold Ix; omega
    have q1 := read_run (v := v1) (cr := cr) (op := op) (du := du) hs1.pend (by have := hD.pl; omega) hD.h64 hD.p64 (i := k) (by omega)
    have q2 := rread_run (v := v2) (cr := cr) (op := op) (du := du) hs2.pend (by have := hD.pl; omega) hD.h64 hD.p64 (i := k) (by omega)
    have q3 := same_run (cont du pe k) (cont du pe k)
    rw [show (cont du pe k == cont du pe k) = true from by simp] at q3
    have ih2 := ih (k + 1)
    generalize cont du pe k = X at *
    generalize hQ : (fun q : AEx × St => q.1 = AEx.exit 5) = Q at ih2 ⊢
    rcases hs1 with ⟨rfl, rfl⟩ | ⟨w1, rfl, g1⟩ <;> rcases hs2 with ⟨rfl, h9⟩ | ⟨w2, rfl, g2⟩
    · simp [dsk, dskB, pvC, poC] at q1 q2
      simp [hs, DS, psQ, dskB, pvC, hlt, hlt', hx, q1, q2, q3]
      exact Ev.mono (ih2 _ (by omega) (by simp [DS, psQ, dskB, pvC])) (fun _ h => h)
    · exact absurd rfl g2
    · exact absurd h9 g1
    · simp [dsk, dskB, pvC, poC] at q1 q2
      simp [hs, DS, psQ, dskB, pvC, hlt, hlt', hx, q1, q2, q3]
      exact Ev.mono (ih2 _ (by omega) (by simp [DS, psQ, dskB, pvC])) (fun _ h => h)

theorem journalActs_run (lives : KJ 8 [] [] = some (.dat (.bool true), [])) (n : Int) (l : List Act) : KJ 5 [.dat (.int .i64 n), .dat (.sl (l.map Ac))] [] = some (.dat (.bool true), []) := by
  refine callT_ev (fn := fn5) rfl rfl ?_
  have hsm := small_run l n
  by_cases hc : (decide (l.length ≤ 30) && decide (n ≤ 20) && smallA l) = true
  · rw [hc] at hsm
    simp only [Bool.and_eq_true, decide_eq_true_eq] at hc
    obtain ⟨⟨hl, hn⟩, hsa⟩ := hc
    by_cases h1 : 1 ≤ n
    · obtain ⟨k, rfl⟩ : ∃ k : Nat, n = k := ⟨n.toNat, by omega⟩
      have h1' : ¬ (k : Int) < 1 := by omega
      obtain ⟨v1, hnd⟩ := newDisk_run k (by omega) (by omega)
      obtain ⟨v2, hrnd⟩ := rnewDisk_run k (by omega) (by omega)
      have hI : AInv k 0 (List.replicate k zeroS) [] 0 0 none none [] := ⟨dok_zero k (by omega), by omega, by omega, by omega, by omega, .inl ⟨rfl, rfl⟩, .inl ⟨rfl, rfl⟩, by simp, by simp⟩
      have hlp := fun s h => acts_loop k k v1 v2 l [] (List.replicate k zeroS) [] 0 0 none none 0 0 [] s (by simpa using hl) hsa hI h
      have hzl : (List.replicate k zeroS).length = k := by simp
      generalize List.replicate k zeroS = Z at *
      simp [dsk, dskB] at hnd hrnd
      simp [runFun_eq, hsm, hnd, hrnd, h1']
      simp only [ev_bnd_iff]
      refine Ev.mono (hlp _ (by simp [envA, HS, psQ, tlQ, stQ, renE, elemsR, placesE, closedB, refsQ, dskB, pvC])) ?_
      rintro ⟨_, s⟩ ⟨rfl, du, pe, cr, op, sh1, sh2, vj, vr, JS, hA, hs⟩
      dsimp only at hs
      simp [hs]
      simp only [ev_bnd_iff]
      refine Ev.mono (last_loop k v1 v2 du pe cr op sh1 sh2 hA.d hA.s1 hA.s2 k 0 _ (by omega) (by rw [hd_eq]; exact DS_hd _ _)) ?_
      rintro ⟨_, ⟨env, objs⟩⟩ rfl
      simp [lives]
    · have h1' : n < 1 := by omega
      simp [runFun_eq, hsm, h1', lives]
  · rw [Bool.not_eq_true] at hc
    rw [hc] at hsm
    simp [runFun_eq, hsm, lives]
end Go.Am

/- The abstract machine: what a law is handed reads as data. -/
set_option linter.unusedVariables false
namespace Go.Am

/-- every reading of a row of this type is a datum that fits T -/
def ReadsAs (P : Program) (w : World) (t : TypeId) (T : Dat → Prop) : Prop :=
  ∀ (H : Type) (enc : TypeId × Value → H) (base : Nat) (spare : Nat → Bool) (held : Bool) (fuel : Nat) (cs : List Value) (x : DataW H × List MemPlace),
    DataW.trod enc P w base spare held fuel t cs = some x → ∃ D, RepD (allF w) D cs ∧ T D

def IsInt (k : IntKind) (D : Dat) : Prop := ∃ n, D = .int k n ∧ (Lit.int k n).wf = true
def IsBool (D : Dat) : Prop := ∃ b, D = .bool b
def IsStr (D : Dat) : Prop := ∃ s, D = .str s ∧ s.length ≤ maxLen
def IsSl (T : Dat → Prop) (D : Dat) : Prop := ∃ l, D = .sl l ∧ (∀ d ∈ l, T d) ∧ l.length ≤ maxLen
def IsAgg (Ts : List (Dat → Prop)) (D : Dat) : Prop := ∃ ds : List Dat, D = .agg (ds.flatMap Dat.cells) ∧ ds.length = Ts.length ∧ ∀ (i : Nat) (T : Dat → Prop) (d : Dat), Ts[i]? = some T → ds[i]? = some d → T d

section
variable {P : Program} {w : World} {t e : TypeId}

theorem reads_int {k : IntKind} (ht : P.underlying t = some (.int k)) : ReadsAs P w t (IsInt k) := by
  intro H enc base spare held fuel cs x h
  obtain ⟨n, rfl, _, hw⟩ := DataW.trod_int ht h
  exact ⟨.int k n, by simp [RepD], n, rfl, hw⟩

theorem reads_bool (ht : P.underlying t = some .bool) : ReadsAs P w t IsBool := by
  intro H enc base spare held fuel cs x h
  obtain ⟨b, rfl, _⟩ := DataW.trod_bool ht h
  exact ⟨.bool b, by simp [RepD], b, rfl⟩

theorem reads_string (ht : P.underlying t = some .string) : ReadsAs P w t IsStr := by
  intro H enc base spare held fuel cs x h
  obtain ⟨s, rfl, _, hs⟩ := DataW.trod_string ht h
  exact ⟨.str s.data.toList, by simp [RepD], s.data.toList, rfl, by simpa using hs⟩

theorem reads_slice {T : Dat → Prop} (ht : P.underlying t = some (.slice e)) (hc : 0 < P.cellsOf e) (he : ReadsAs P w e T) : ReadsAs P w t (IsSl T) := by
  intro H enc base spare held fuel cs x h
  rcases DataW.trod_slice ht h with ⟨rfl, _⟩ | ⟨a, len, cap, elems, rest, n, _, rfl, _, hb, hl, hm, hlen, hel, _, _⟩
  · exact ⟨.sl [], by simp [RepD], [], rfl, by simp, by simp⟩
  · have each : ∀ i, i < len → ∃ D cs, RepD (allF w) D cs ∧ T D ∧ cs.length = P.cellsOf e ∧ (∀ j, j < P.cellsOf e → w.cell? ((a.add (i * P.cellsOf e)).add j) = cs[j]?) := by
      intro i hi
      have h1 := hel i hi
      have h2 : elems[i]? = some (elems[i]'(by omega)) := by simp
      rw [h2, Option.bind_eq_some_iff] at h1
      obtain ⟨cs', hcs, hy⟩ := h1
      obtain ⟨D, hD, hT⟩ := he H enc base spare held n cs' _ hy
      obtain ⟨_, hlen', hcell⟩ := World.cells?_some hcs
      exact ⟨D, cs', hD, hT, hlen', hcell⟩
    have list : ∀ m, m ≤ len → ∃ l : List Dat, l.length = m ∧ (∀ d ∈ l, T d) ∧ ∀ i d, l[i]? = some d → ∃ cs, RepD (allF w) d cs ∧ cs.length = P.cellsOf e ∧ (∀ j, j < P.cellsOf e → w.cell? ((a.add (i * P.cellsOf e)).add j) = cs[j]?) := by
      intro m
      induction m with
      | zero => intro _; exact ⟨[], rfl, by simp, by simp⟩
      | succ m ih =>
        intro hm'
        obtain ⟨l, l1, l2, l3⟩ := ih (by omega)
        obtain ⟨D, cs, d1, d2, d3, d4⟩ := each m (by omega)
        refine ⟨l ++ [D], by simp [l1], fun d hd => ?_, fun i d hi => ?_⟩
        · rcases List.mem_append.1 hd with hd | hd
          · exact l2 d hd
          · simp at hd; subst hd; exact d2
        · by_cases him : i < m
          · rw [List.getElem?_append_left (by omega)] at hi
            exact l3 i d hi
          · rw [List.getElem?_append_right (by omega)] at hi
            have : i = m := by
              have := (List.getElem?_eq_some_iff.1 hi).1
              simp at this
              omega
            subst this
            simp [l1] at hi
            subst hi
            exact ⟨cs, d1, d3, d4⟩
    obtain ⟨l, l1, l2, l3⟩ := list len (Nat.le_refl _)
    refine ⟨.sl l, ?_, l, rfl, l2, by omega⟩
    simp only [RepD]
    refine ⟨some a, cap, by rw [l1], by omega, ?_⟩
    cases l with
    | nil => exact .inl rfl
    | cons d r =>
      right
      have hspot : a.spot = none := by
        obtain ⟨cs, c1, c2, c3⟩ := l3 0 d rfl
        have := c3 0 hc
        cases hs : a.spot with
        | none => rfl
        | some sp =>
          have hcs : cs[0]? = some (cs[0]'(by omega)) := by simp
          rw [hcs] at this
          unfold World.cell? at this
          simp only [Addr.add] at this
          split at this
          · simp at this; rw [hs] at this; simp at this
          · cases this
      refine ⟨a.block, a.off, P.cellsOf e, by cases a; simp only at hspot; subst hspot; rfl, rowD_of fun i d hi => ?_⟩
      obtain ⟨cs, c1, c2, c3⟩ := l3 i d hi
      refine ⟨cs, c2, c1, fun j v hj => ?_⟩
      have hjl : j < P.cellsOf e := by rw [← c2]; exact (List.getElem?_eq_some_iff.1 hj).1
      have := c3 j hjl
      rw [hj] at this
      have ea : (a.add (i * P.cellsOf e)).add j = ⟨a.block, a.off + i * P.cellsOf e + j, none⟩ := by
        obtain ⟨b, o, s⟩ := a
        simp only at hspot
        subst hspot
        unfold Addr.add
        split <;> split <;> simp_all
      rw [ea] at this
      exact this

/-- the fields lie one behind the other, to the end -/
def laid (P : Program) (total : Nat) : Nat → List Field → Bool
  | o, [] => o == total
  | o, f :: r => f.offset == o && laid P total (o + P.cellsOf f.type) r

theorem reads_fields {cs : List Value} {total : Nat} (hlen : cs.length = total) : ∀ (fs : List Field) (Ts : List (Dat → Prop)) (o : Nat), laid P total o fs = true → fs.length = Ts.length →
    (∀ (i : Nat) (f : Field) (T : Dat → Prop), fs[i]? = some f → Ts[i]? = some T → ∃ D, RepD (allF w) D ((cs.drop f.offset).take (P.cellsOf f.type)) ∧ T D) →
    ∃ ds : List Dat, AggD (allF w) (ds.flatMap Dat.cells) (cs.drop o) ∧ ds.length = Ts.length ∧ ∀ (i : Nat) (T : Dat → Prop) (d : Dat), Ts[i]? = some T → ds[i]? = some d → T d
  | [], [], o, h, _, _ => by
    simp only [laid, beq_iff_eq] at h
    refine ⟨[], ?_, rfl, by simp⟩
    rw [List.drop_of_length_le (by omega)]
    simp [AggD]
  | [], T :: Ts, o, h, hl, _ => by simp at hl
  | f :: fs, [], o, h, hl, _ => by simp at hl
  | f :: fs, T :: Ts, o, h, hl, he => by
    simp only [laid, Bool.and_eq_true, beq_iff_eq] at h
    obtain ⟨h1, h2⟩ := h
    obtain ⟨ds, e1, e2, e3⟩ := reads_fields hlen fs Ts _ h2 (by simpa using hl) fun i f' T' hi hT => he (i + 1) f' T' (by simpa using hi) (by simpa using hT)
    obtain ⟨D, d1, d2⟩ := he 0 f T rfl rfl
    refine ⟨D :: ds, ?_, by simp [e2], fun i T' d hi hd => ?_⟩
    · rw [List.flatMap_cons]
      have := (d1.cellsAgg).append e1
      rw [h1] at this
      have hsplit : (cs.drop o).take (P.cellsOf f.type) ++ cs.drop (o + P.cellsOf f.type) = cs.drop o := by
        rw [← List.drop_drop, List.take_append_drop]
      rwa [hsplit] at this
    · cases i with
      | zero => simp at hi hd; subst hi; subst hd; exact d2
      | succ i => exact e3 i T' d (by simpa using hi) (by simpa using hd)

theorem reads_struct {fs : Array Field} {Ts : List (Dat → Prop)} (ht : P.underlying t = some (.struct fs)) (hl : laid P (P.cellsOf t) 0 fs.toList = true) (hn : fs.size = Ts.length)
    (he : ∀ (i : Nat) (f : Field) (T : Dat → Prop), fs[i]? = some f → Ts[i]? = some T → ReadsAs P w f.type T) : ReadsAs P w t (IsAgg Ts) := by
  intro H enc base spare held fuel cs x h
  obtain ⟨xs, n, _, _, hlen, hxs, hf⟩ := DataW.trod_struct ht h
  obtain ⟨ds, e1, e2, e3⟩ := reads_fields (w := w) hlen fs.toList Ts 0 hl (by simpa using hn) fun i f T hi hT => by
    have hi' : fs[i]? = some f := by simpa using hi
    have hlt : i < xs.length := by rw [hxs]; exact (Array.getElem?_eq_some_iff.1 hi').1
    have := hf i f hi'
    rw [List.getElem?_eq_getElem hlt] at this
    exact he i f T hi' hT H enc base spare held n _ _ this
  exact ⟨.agg (ds.flatMap Dat.cells), by simpa [RepD] using e1, ds, rfl, e2, e3⟩

/-- an argument that is no struct -/
theorem reads_arg {T : Dat → Prop} {H : Type} {enc : TypeId × Value → H} {base : Nat} {spare : Nat → Bool} {held : Bool} {v : Value} {d : DataW H} {ps : List MemPlace} (h : DataW.Trod enc P w base spare held t v d ps) (hr : ReadsAs P w t T)
    (hv : isAggV v = false) (hT : ∀ D, T D → D.isAgg = false) : ∃ D, RepA (ctx0 w) (.dat D) v ∧ T D := by
  obtain ⟨fuel, hf⟩ := h
  obtain ⟨D, h1, h2⟩ := hr H enc base spare held fuel _ _ hf
  exact ⟨D, ⟨h1, by rw [hv, hT D h2]⟩, h2⟩

end
end Go.Am

/- The abstract machine: what it answers for all data of the right shape, a law says of all arguments. -/
set_option linter.unusedVariables false
namespace Go.Am
open Go.RowKit Go.ChangeShapes Go.WideShapes

structure ArgOK (P : Program) (t : TypeId) (T : Dat → Prop) : Prop where
  rd : ∀ w, ReadsAs P w t T
  agg : ∀ (w : World) (base : Nat) (v : Value), Value.okWide P w .any base t v → ∀ D, T D → isAggV v = D.isAgg
  read : P.readableRec t = true
  row : t < P.types.size

def ArgsOK (P : Program) : List TypeId → List (Dat → Prop) → Prop
  | [], [] => True
  | t :: ts, T :: Ts => ArgOK P t T ∧ ArgsOK P ts Ts
  | _, _ => False

def AllD : List (Dat → Prop) → List Dat → Prop
  | [], [] => True
  | T :: Ts, D :: Ds => T D ∧ AllD Ts Ds
  | _, _ => False

theorem args_read {P : Program} {H : Type} {enc : TypeId × Value → H} {w : World} {base : Nat} : ∀ (ts : List TypeId) (Ts : List (Dat → Prop)) (vs : List Value) (ds : List (DataW H)) (ps : List MemPlace),
    ArgsOK P ts Ts → DataW.TrodAll enc P w 0 (fun _ => true) true ts vs ds ps → (∀ (j : Nat) t v, ts[j]? = some t → vs[j]? = some v → Value.okWide P w .any base t v) →
    ∃ Ds : List Dat, AllD Ts Ds ∧ RepL (ctx0 w) (Ds.map .dat) vs
  | [], [], vs, ds, ps, _, h, _ => by
    obtain ⟨rfl, rfl, rfl⟩ := trodAll_nil h
    exact ⟨[], trivial, rfl⟩
  | t :: ts, T :: Ts, vs, ds, ps, hA, h, hv => by
    obtain ⟨v, vs', d, ds', p, q, rfl, rfl, rfl, h0, hr⟩ := trodAll_cons h
    obtain ⟨a0, ar⟩ := hA
    obtain ⟨Ds, h1, h2⟩ := args_read ts Ts vs' ds' q ar hr fun j t v ht hvj => hv (j + 1) t v (by simpa using ht) (by simpa using hvj)
    obtain ⟨fuel, hf⟩ := h0
    obtain ⟨D, d1, d2⟩ := a0.rd w H enc 0 (fun _ => true) true fuel _ _ hf
    exact ⟨D :: Ds, ⟨d2, h1⟩, v, vs', rfl, ⟨d1, a0.agg w base v (hv 0 t v rfl rfl) D d2⟩, h2⟩
  | [], T :: Ts, _, _, _, h, _, _ => h.elim
  | t :: ts, [], _, _, _, h, _, _ => h.elim

theorem args_again {P : Program} {H : Type} {enc : TypeId × Value → H} {w w' : World} (hl : laidOutB P = true) (sp : Nat → Bool) : ∀ (ts : List TypeId) (Ts : List (Dat → Prop)) (vs : List Value) (ds : List (DataW H)) (ps : List MemPlace),
    ArgsOK P ts Ts → DataW.TrodAll enc P w 0 (fun _ => true) true ts vs ds ps → (∀ p ∈ ps, w.sameAt w' p) → (∀ p ∈ ps, sp p.block = true) → DataW.TrodAll enc P w' 0 sp true ts vs ds ps
  | [], [], vs, ds, ps, _, h, _, _ => by
    obtain ⟨rfl, rfl, rfl⟩ := trodAll_nil h
    exact trodAll_mk0
  | t :: ts, T :: Ts, vs, ds, ps, hA, h, hs, hp => by
    obtain ⟨v, vs', d, ds', p, q, rfl, rfl, rfl, h0, hr⟩ := trodAll_cons h
    obtain ⟨a0, ar⟩ := hA
    exact trodAll_cons_mk (WideElems.Trod_stays hl a0.read a0.row h0 (fun x hx => hs x (by simp [hx])) (fun x hx => hp x (by simp [hx])))
      (args_again hl sp ts Ts vs' ds' q ar hr (fun x hx => hs x (by simp [hx])) (fun x hx => hp x (by simp [hx])))
  | [], T :: Ts, _, _, _, h, _, _, _ => h.elim
  | t :: ts, [], _, _, _, h, _, _, _ => h.elim

theorem Grown.same {w w' : World} (h : Grown w w') {p : MemPlace} (hb : p.block < w.heap.size) : w.sameAt w' p := by
  have hk := h.1
  cases p with
  | cell b o => exact hk.cell hb (fun h => h)
  | map b =>
    show w'.heap[b]? = w.heap[b]?
    have hk := hk.2.2 b hb
    split at hk
    · rename_i c t fr c' t' fr' e1 e2
      obtain ⟨rfl, rfl, h3, h4⟩ := hk
      have : c' = c := Array.ext_getElem? fun j => h4 j (fun h => h)
      rw [e1, e2, this]
    · rename_i e1 e2
      rcases hk with hf | ⟨rfl, rfl⟩
      · exact hf.elim
      · rw [e1, e2]
    · exact hk

/-- THE CONTRACT OF A LAW: true, and nothing turned. -/
theorem law_contract {P : Program} {tbl : FuncId → Option AFun} (ht : TblOK P tbl) (hl : laidOutB P = true) {f : FuncId} {fn : Func} {s : ChangeSpec} {Ts : List (Dat → Prop)} (hA : ArgsOK P fn.params.toList Ts)
    {tb : TypeId} (htb : P.underlying tb = some .bool) (hres : fn.resultTypes = #[tb]) (hvars : s.vars = [])
    (hfn : ∀ (H : Type) (ds : List (DataW H)), ds.length = fn.params.size → s.fn H ds = { results := [.lit (.bool true)], args := ds })
    {H : Type} {enc : TypeId × Value → H} {W : World} {base : Nat} {args : Array Value} {ds gs : List (DataW H)} {before : List MemPlace}
    (hrun : ∀ Ds, AllD Ts Ds → RepL (ctx0 W) (Ds.map .dat) args.toList → ∃ os', callT tbl f (Ds.map .dat) [] = some (.dat (.bool true), os'))
    (hval : ∀ (j : Nat) t v, fn.params[j]? = some t → args[j]? = some v → Value.okWide P W .any base t v)
    (hW : DataW.Whole enc P fn.params.toList s.vars false W args.toList ds gs before) :
    Calls P f args W fun e W' => ∃ v, e = .returned v ∧ s.post enc P fn false true false false W args v W' := by
  have hW' := hW
  obtain ⟨p, q, hA0, hV, rfl, hfz, hnd⟩ := hW
  rw [hvars] at hV
  obtain ⟨rfl, rfl⟩ := trodVars_none hV
  obtain ⟨Ds, h1, h2⟩ := args_read _ _ _ _ _ hA hA0 fun j t v ht hv => hval j t v (by simpa using ht) (by simpa using hv)
  obtain ⟨os', ho⟩ := hrun Ds h1 h2
  refine (top_calls ht ho h2).mono fun e W1 ⟨he, hg⟩ => ?_
  have hlen : ∀ (ts : List TypeId) (vs : List Value) (ds : List (DataW H)) (ps : List MemPlace), DataW.TrodAll enc P W 0 (fun _ => true) true ts vs ds ps → ds.length = ts.length := by
    intro ts
    induction ts with
    | nil => intro vs ds ps h; obtain ⟨rfl, rfl, rfl⟩ := trodAll_nil h; rfl
    | cons t ts ih =>
      intro vs ds ps h
      obtain ⟨v, vs', d, ds', p, q, rfl, rfl, rfl, _, hr⟩ := trodAll_cons h
      simp [ih _ _ _ hr]
  have hds := hlen _ _ _ _ hA0
  have hs := hfn H ds (by rw [hds]; simp)
  subst he
  refine ⟨_, rfl, post_of_same (pa := p) (pv := []) hW' (fun b sp hd => ?_) (fun sp hsp => ?_) (fun _ _ => ?_) (by simp) (hg.frame _) hg.2.1 (ok_one hres rfl (okWide_bool_mk htb _))⟩
  · rw [List.append_nil, hs, hres]
    exact trodAll_cons_mk (shut_bool htb _) trodAll_mk0
  · rw [List.append_nil, hs]
    exact args_again hl sp _ _ _ _ _ hA hA0 (fun x hx => Grown.same hg (hW'.lt x (by simpa using hx))) (fun x hx => hsp x (by simpa using hx))
  · rw [hvars, List.append_nil, hs]
    rfl

theorem argInt {P : Program} {t : TypeId} {k : IntKind} (ht : P.underlying t = some (.int k)) (hr : P.readableRec t = true) (hs : t < P.types.size) : ArgOK P t (IsInt k) :=
  ⟨fun w => reads_int ht, fun w base v hv D ⟨n, h, _⟩ => by obtain ⟨n', rfl⟩ := okWide_int ht hv; subst h; rfl, hr, hs⟩
theorem argBool {P : Program} {t : TypeId} (ht : P.underlying t = some .bool) (hr : P.readableRec t = true) (hs : t < P.types.size) : ArgOK P t IsBool :=
  ⟨fun w => reads_bool ht, fun w base v hv D ⟨n, h⟩ => by obtain ⟨n', rfl⟩ := okWide_bool ht hv; subst h; rfl, hr, hs⟩
theorem argStr {P : Program} {t : TypeId} (ht : P.underlying t = some .string) (hr : P.readableRec t = true) (hs : t < P.types.size) : ArgOK P t IsStr :=
  ⟨fun w => reads_string ht, fun w base v hv D ⟨n, h, _⟩ => by obtain ⟨n', rfl⟩ := okWide_string ht hv; subst h; rfl, hr, hs⟩
theorem argSlice {P : Program} {t e : TypeId} {T : Dat → Prop} (ht : P.underlying t = some (.slice e)) (hc : 0 < P.cellsOf e) (he : ∀ w, ReadsAs P w e T) (hr : P.readableRec t = true) (hs : t < P.types.size) : ArgOK P t (IsSl T) :=
  ⟨fun w => reads_slice ht hc (he w), fun w base v hv D ⟨n, h, _⟩ => by obtain ⟨a, l, c, rfl⟩ := okWide_slice ht hv; subst h; rfl, hr, hs⟩
theorem argStruct {P : Program} {t : TypeId} {fs : Array Field} {Ts : List (Dat → Prop)} (ht : P.underlying t = some (.struct fs)) (hl : laid P (P.cellsOf t) 0 fs.toList = true) (hn : fs.size = Ts.length)
    (he : ∀ w, ∀ (i : Nat) (f : Field) (T : Dat → Prop), fs[i]? = some f → Ts[i]? = some T → ReadsAs P w f.type T) (hr : P.readableRec t = true) (hs : t < P.types.size) : ArgOK P t (IsAgg Ts) :=
  ⟨fun w => reads_struct ht hl hn (he w), fun w base v hv D ⟨n, h, _⟩ => by obtain ⟨cs, rfl, _⟩ := okWide_struct ht hv; subst h; rfl, hr, hs⟩

end Go.Am

namespace Go.Am
theorem lives_run : callT tblJ 8 [] [] = some (.dat (.bool true), []) := callT_kf (m := 4000) (n := 30) (by kernel_rfl)
end Go.Am

/- What a law is handed, as bytes and numbers; the seat's common facts. -/
set_option linter.unusedVariables false
namespace Go.Am

@[simp] def Bs' (l : List UInt8) : Dat := .sl (l.map B)

theorem byte_of {D : Dat} (h : IsInt .u8 D) : ∃ b, D = B b := by
  obtain ⟨n, rfl, hw⟩ := h
  have : 0 ≤ n ∧ n ≤ 255 := by simpa [Lit.wf, IntKind.min, IntKind.max, IntKind.signed, IntKind.bits] using hw
  refine ⟨UInt8.ofNat n.toNat, ?_⟩
  rw [B, UInt8.toNat_ofNat']
  congr 1
  omega

theorem list_of {T : Dat → Prop} {α : Type} {f : α → Dat} (hf : ∀ d, T d → ∃ a, d = f a) : ∀ (l : List Dat), (∀ d ∈ l, T d) → ∃ xs : List α, l = xs.map f
  | [], _ => ⟨[], rfl⟩
  | d :: l, h => by
    obtain ⟨a, ha⟩ := hf d (h d (by simp))
    obtain ⟨xs, hx⟩ := list_of hf l fun d hd => h d (by simp [hd])
    exact ⟨a :: xs, by rw [ha, hx]; rfl⟩

theorem bytes_of {D : Dat} (h : IsSl (IsInt .u8) D) : ∃ l : List UInt8, D = .sl (l.map B) := by
  obtain ⟨l, rfl, h, _⟩ := h
  obtain ⟨xs, rfl⟩ := list_of (fun d hd => byte_of hd) l h
  exact ⟨xs, rfl⟩

theorem all1 {T1 : Dat → Prop} {Ds : List Dat} (h : AllD [T1] Ds) : ∃ D1, Ds = [D1] ∧ T1 D1 := by
  match Ds, h with
  | [D1], h => exact ⟨D1, rfl, h.1⟩
theorem all2 {T1 T2 : Dat → Prop} {Ds : List Dat} (h : AllD [T1, T2] Ds) : ∃ D1 D2, Ds = [D1, D2] ∧ T1 D1 ∧ T2 D2 := by
  match Ds, h with
  | [D1, D2], h => exact ⟨D1, D2, rfl, h.1, h.2.1⟩
theorem all3 {T1 T2 T3 : Dat → Prop} {Ds : List Dat} (h : AllD [T1, T2, T3] Ds) : ∃ D1 D2 D3, Ds = [D1, D2, D3] ∧ T1 D1 ∧ T2 D2 ∧ T3 D3 := by
  match Ds, h with
  | [D1, D2, D3], h => exact ⟨D1, D2, D3, rfl, h.1, h.2.1, h.2.2.1⟩
end Go.Am
namespace Go.Proofs.Ytpmlioigoiipaaa
theorem own : ownKnob Try.prog.godebug = none := by kernel_rfl
theorem laidOut : laidOutB Try.prog = true := by kernel_rfl
end Go.Proofs.Ytpmlioigoiipaaa

/- What the laws on acts are handed. -/
namespace Go.Proofs.Ytpmlioigoiipaaa
open Go.ChangeShapes Go.WideShapes Go.RowKit Go.Am
set_option linter.unusedVariables false

abbrev ActT : List (Dat → Prop) := [IsInt .i64, IsInt .i64, IsSl (IsInt .u8), IsSl (IsInt .i64)]

theorem reads51 (w : World) : ReadsAs Try.prog w 51 (IsAgg ActT) :=
  reads_struct Try.underlying51 (by kernel_rfl) rfl fun i f T hf hT => by
    match i, hf, hT with
    | 0, hf, hT => cases hf; cases hT; exact reads_int Try.underlying3
    | 1, hf, hT => cases hf; cases hT; exact reads_int Try.underlying3
    | 2, hf, hT => cases hf; cases hT; exact reads_slice Try.underlying29 (of_decide_eq_true (by kernel_rfl)) (reads_int Try.underlying5)
    | 3, hf, hT => cases hf; cases hT; exact reads_slice Try.underlying49 (of_decide_eq_true (by kernel_rfl)) (reads_int Try.underlying3)

theorem act_of {D : Dat} (h : IsAgg ActT D) : ∃ x : Am.Act, D = Ac x := by
  obtain ⟨ds, rfl, hl, ht⟩ := h
  match ds, hl with
  | [d1, d2, d3, d4], _ =>
    obtain ⟨k, h1, _⟩ := ht 0 _ d1 rfl rfl
    obtain ⟨i, h2, _⟩ := ht 1 _ d2 rfl rfl
    obtain ⟨b, h3⟩ := bytes_of (ht 2 _ d3 rfl rfl)
    obtain ⟨l, h4, h5, _⟩ := ht 3 _ d4 rfl rfl
    obtain ⟨xs, hx⟩ := list_of (f := I64) (fun d hd => by obtain ⟨n, rfl, _⟩ := hd; exact ⟨n, rfl⟩) l h5
    refine ⟨(k, i, b, xs), ?_⟩
    rw [h1, h2, h3, h4, hx]
    rfl

theorem argsA : ArgsOK Try.prog [3, 44] [IsInt .i64, IsSl (IsAgg ActT)] :=
  ⟨argInt Try.underlying3 (by kernel_rfl) (of_decide_eq_true (by kernel_rfl)),
   argSlice (e := 51) Try.underlying44 (of_decide_eq_true (by kernel_rfl)) reads51 (by kernel_rfl) (of_decide_eq_true (by kernel_rfl)), trivial⟩

theorem acts_of {Ds : List Dat} (h : AllD [IsInt .i64, IsSl (IsAgg ActT)] Ds) : ∃ (n : Int) (l : List Am.Act), Ds = [.int .i64 n, .sl (l.map Ac)] := by
  obtain ⟨D1, D2, rfl, h1, h2⟩ := all2 h
  obtain ⟨n, h1, _⟩ := h1
  obtain ⟨l, h2, hl, _⟩ := h2
  obtain ⟨xs, hx⟩ := list_of (f := Ac) (fun d hd => act_of hd) l hl
  exact ⟨n, xs, by rw [h1, h2, hx]⟩
end Go.Proofs.Ytpmlioigoiipaaa
