/- The law JournalCrash, walked. -/
import Derived.Test.YtpmlioigoiipaaaJPlain2
set_option linter.unusedVariables false
set_option linter.unusedSimpArgs false
set_option maxRecDepth 10000
namespace Go.Am
open Go.Proofs

def lrPost (t : Bool) (v n : Nat) (b : List (List UInt8)) (q : AEx × St) : Prop := (q.1 = .ret ∧ t = false ∧ hd [4] [] q.2 = some ⟨[(4, .dat (.bool false))], [((0, 0), .arr 1 v false (b.map Bs))]⟩) ∨ (q.1 = .exit 0 ∧ t = true ∧ hd [] [] q.2 = some ⟨[], [((0, 0), .arr 1 v false (b.map Bs))]⟩)

theorem lr_loop (v : Nat) : ∀ (ra rb pre : List (List UInt8)) (s : St), ra.length = rb.length → pre.length + ra.length < 1000000000 →
    hd [0, 1, 5] [] s = some ⟨[(0, .dat (.sl ((pre ++ ra).map Bs))), (1, .rsl (0, 0) v 1 0 (pre ++ rb).length), (5, .dat (.int .i64 pre.length))], [((0, 0), .arr 1 v false ((pre ++ rb).map Bs))]⟩ →
    Ev (loopLim (exec KJ l12_0) s) (lrPost (ra == rb) v (pre ++ rb).length (pre ++ rb)) := by
  intro ra
  induction ra with
  | nil =>
    intro rb pre s hl hn hs
    cases rb with
    | cons _ _ => simp at hl
    | nil =>
      apply ev_loop
      simp [hs, lrPost]
  | cons a ra ih =>
    intro rb pre s hl hn hs
    cases rb with
    | nil => simp at hl
    | cons b rb =>
      apply ev_loop
      rw [List.length_cons] at hn
      have hx : Ix pre.length := by unfold Ix; omega
      have h1 := same_run a b
      by_cases hab : a = b
      · subst hab
        have e : ((a :: ra) == (a :: rb)) = (ra == rb) := by simp
        have e1 : pre ++ a :: rb = (pre ++ [a]) ++ rb := by simp
        rw [e, e1]
        generalize hQ : lrPost (ra == rb) v _ (pre ++ [a] ++ rb) = Q
        simp [hs, hx, h1]
        rw [← hQ]
        refine Ev.mono (ih rb (pre ++ [a]) _ (by simpa using hl) (by simp; omega) (by simp)) (fun _ h => h)
      · have e : ((a :: ra) == (b :: rb)) = false := by simp [hab]
        have hab' : (a == b) = false := by simp [hab]
        rw [e]
        generalize hQ : lrPost false v _ (pre ++ b :: rb) = Q
        simp [hs, hx, h1, hab']
        rw [← hQ]
        exact .inl ⟨rfl, rfl, by simp⟩

theorem lists_ref (v : Nat) (a b : List (List UInt8)) (hl : a.length < 1000000000) : KJ 12 [.dat (.sl (a.map Bs)), .rsl (0, 0) v 1 0 b.length] [.arr 1 v false (b.map Bs)] = some (.dat (.bool (a == b)), [.arr 1 v false (b.map Bs)]) := by
  refine callT_ev (fn := fn12) rfl rfl ?_
  by_cases h : a.length = b.length
  · simp [runFun_eq, h]
    simp only [ev_bnd_iff]
    refine Ev.mono (lr_loop v a b [] _ h (by simpa using hl) (by simp)) ?_
    rintro ⟨x, s⟩ (⟨rfl, e, hs⟩ | ⟨rfl, e, hs⟩)
    · dsimp only at hs
      simp only [blkK, Ev_some, seqK, endK_hd hs, e]
      simp
    · simp at hs
      simp [hs, e]
  · have e : (a == b) = false := by
      apply Bool.eq_false_iff.2
      intro hab
      simp at hab
      exact h (by rw [hab])
    rw [e]
    simp [runFun_eq, h]
end Go.Am
