/- Walks: frames, opened. -/
import Derived.Test.YtpmlioigoiipaaaJW4
set_option linter.unusedVariables false
set_option linter.unusedSimpArgs false
set_option maxRecDepth 10000
namespace Go.Am
open Go.Proofs

theorem lead_le : ∀ (m : Nat) (l : List UInt8), lead m l ≤ m ∧ lead m l ≤ l.length
  | 0, l => by simp [lead]
  | m + 1, [] => by simp [lead]
  | m + 1, b :: r => by
    have := lead_le m r
    simp only [lead]
    split
    · simp; omega
    · simp

theorem decB_size {l : List UInt8} (h : (decB l).2.2 = 0) : 1 ≤ (decB l).2.1 ∧ (decB l).2.1 ≤ l.length ∧ (decB l).2.1 ≤ 9 ∧ (decB l).1 ≤ 4611686018427387904 := by
  have := lead_le 9 l
  unfold decB at h ⊢
  split at h
  · simp at h
  · split at h
    · simp at h
    · split at h
      · simp at h
      · split at h
        · simp at h
        · rename_i h1 h2 h3 h4
          simp only [h1, h2, h3, h4, if_false]
          omega

def fopB (l : List UInt8) : List UInt8 × List UInt8 × Nat :=
  if (decB l).2.2 ≠ 0 then ([], [], (decB l).2.2) else
  if l.length < (decB l).2.1 + (decB l).1 + 4 then ([], [], 22) else
  if sumB (crcB (l.take ((decB l).2.1 + (decB l).1))) = (l.drop ((decB l).2.1 + (decB l).1)).take 4 then
    ((l.drop (decB l).2.1).take (decB l).1, l.drop ((decB l).2.1 + (decB l).1 + 4), 0)
  else ([], [], 21)

theorem sum_loop (l : List UInt8) (e size : Nat) (hl : l.length < 1000000000000) : ∀ (rest pre : List UInt8) (s : St), (pre ++ rest).length = 4 → e + 4 ≤ l.length → pre = (l.drop e).take pre.length →
    hd [0, 6, 8, 41, 42, 43] [0, 41] s = some ⟨[(0, .dat (.sl (l.map B))), (6, .dat (.int .i64 size)), (8, .dat (.int .i64 e)), (41, .dat (.sl ((pre ++ rest).map B))), (42, .dat (.int .i64 4)), (43, .dat (.int .i64 pre.length))], []⟩ →
    Ev (loopLim (exec KJ l47_0) s) fun q =>
      (q.1 = .ret ∧ pre ++ rest ≠ (l.drop e).take 4 ∧ hd [2, 3, 4] [] q.2 = some ⟨[(2, .nils), (3, .nils), (4, .dat (.int .i64 21))], []⟩) ∨
      (q.1 = .exit 0 ∧ pre ++ rest = (l.drop e).take 4 ∧ hd [0, 6, 8] [] q.2 = some ⟨[(0, .dat (.sl (l.map B))), (6, .dat (.int .i64 size)), (8, .dat (.int .i64 e))], []⟩) := by
  intro rest
  induction rest with
  | nil =>
    intro pre s h4 he hp hs
    apply ev_loop
    have h5 : pre.length = 4 := by simpa using h4
    rw [h5] at hp
    simp [hs, h5, ← hp]
  | cons b rest ih =>
    intro pre s h4 he hp hs
    apply ev_loop
    have h5 : pre.length + (rest.length + 1) = 4 := by simpa using h4
    have hx : Ix pre.length := by unfold Ix; omega
    have hlt : (pre.length : Int) < 4 := by omega
    obtain ⟨c, hc⟩ := get_at l (i := e + pre.length) (by omega)
    have h1 : (e : Int) + pre.length < 1000000000000000 := by omega
    have h2 : -1000000000000000 < (e : Int) + pre.length := by omega
    have h3 : (0 : Int) ≤ (e : Int) + pre.length := by omega
    have h6 : ((e : Int) + pre.length).toNat = e + pre.length := by omega
    have hp2 : (l.drop e).take (pre.length + 1) = pre ++ [c] := by
      rw [List.take_add_one, ← hp, List.getElem?_drop, hc]; rfl
    by_cases hbc : c = b
    · subst hbc
      simp [hs, hx, hlt, hc, h1, h2, h3, h6]
      refine Ev.mono (ih (pre ++ [c]) _ (by simpa using h4) he (by simp [hp2]) (by simp)) (fun q h => by simpa using h)
    · have hne : ¬ c.toNat = b.toNat := fun h => hbc (UInt8.toNat_inj.1 h)
      simp [hs, hx, hlt, hc, h1, h2, h3, h6, hne]
      intro h
      have h7 : (pre ++ b :: rest)[pre.length]? = ((l.drop e).take 4)[pre.length]? := by rw [h]
      rw [get_mid, List.getElem?_take, if_pos (by omega), List.getElem?_drop, hc] at h7
      exact hbc (Option.some.inj h7).symm

theorem fopen_run (l : List UInt8) (hl : l.length < 100000000000) : KJ 47 [.dat (.sl (l.map B))] [] = some (.tup [.dat (Bs (fopB l).1), .dat (Bs (fopB l).2.1), .dat (.int .i64 (fopB l).2.2)], []) := by
  refine callT_ev (fn := fn47) rfl rfl ?_
  have h1 := dec_run l (by omega)
  by_cases he : (decB l).2.2 = 0
  · obtain ⟨b1, b2, b3, b4⟩ := decB_size he
    generalize hN : (decB l).1 = N at *
    generalize hS : (decB l).2.1 = S at *
    have a1 : (l.length : Int) - S < 1000000000000000 := by omega
    have a2 : -1000000000000000 < (l.length : Int) - S := by omega
    by_cases hsh : l.length < S + N + 4
    · have hf : fopB l = ([], [], 22) := by simp [fopB, he, hN, hS, hsh]
      rw [hf]
      by_cases h4 : (l.length : Int) - S < 4
      · simp [runFun_eq, h1, he, a1, a2, h4]
      · have a3 : (l.length : Int) - S - 4 < 1000000000000000 := by omega
        have a4 : -1000000000000000 < (l.length : Int) - S - 4 := by omega
        have a5 : (l.length : Int) - S - 4 < N := by omega
        simp [runFun_eq, h1, he, a1, a2, h4, a3, a4, a5]
    · have h4 : ¬ (l.length : Int) - S < 4 := by omega
      have a3 : (l.length : Int) - S - 4 < 1000000000000000 := by omega
      have a4 : -1000000000000000 < (l.length : Int) - S - 4 := by omega
      have a5 : ¬ (l.length : Int) - S - 4 < N := by omega
      have a6 : (S : Int) + N < 1000000000000000 := by omega
      have a7 : -1000000000000000 < (S : Int) + N := by omega
      have a8 : (0 : Int) ≤ (S : Int) + N := by omega
      have a9 : (S : Int) + N ≤ l.length := by omega
      have a10 : ((S : Int) + N).toNat = S + N := by omega
      have c1 := crc_run (l.take (S + N)) (by simp; omega)
      have c2 := sumBytes_run (crcB (l.take (S + N))) (crcB_lt _)
      have c3 : ((sumB (crcB (l.take (S + N)))).length : Int) = 4 := rfl
      simp at c1 c2
      simp [runFun_eq, h1, he, a1, a2, h4, a3, a4, a5, a6, a7, a8, a9, a10, c1, c2]
      simp only [ev_bnd_iff]
      refine Ev.mono (sum_loop l (S + N) S (by omega) (sumB (crcB (l.take (S + N)))) [] _ rfl (by omega) (by simp) (by simp; rfl)) ?_
      rintro ⟨x, s⟩ (⟨rfl, e1, hs⟩ | ⟨rfl, e1, hs⟩)
      · dsimp only at hs
        have hf : fopB l = ([], [], 21) := by
          simp only [List.nil_append] at e1
          simp [fopB, he, hN, hS, hsh, e1]
        rw [hf]
        simp only [blkK, Ev_some, seqK, endK_hd hs]
        simp
      · dsimp only at hs
        have hf : fopB l = ((l.drop S).take N, l.drop (S + N + 4), 0) := by
          simp only [List.nil_append] at e1
          simp [fopB, he, hN, hS, hsh, e1]
        rw [hf]
        have d1 := join_run [(l.drop S).take N] (by simp) (by simp; omega)
        have d2 := join_run [l.drop (S + N + 4)] (by simp) (by simp; omega)
        have d3 : (S : Int) + N + 4 < 1000000000000000 := by omega
        have d4 : -1000000000000000 < (S : Int) + N + 4 := by omega
        have d5 : (0 : Int) ≤ (S : Int) + N + 4 := by omega
        have d6 : (S : Int) + N + 4 ≤ l.length := by omega
        have d7 : ((S : Int) + N + 4).toNat = S + N + 4 := by omega
        have d8 : (S : Int) ≤ S + N := by omega
        have d9 : ((S : Int) + N - S).toNat = N := by omega
        have d10 : ((l.length : Int) - (S + N + 4)).toNat = l.length - (S + N + 4) := by omega
        simp at d1 d2
        simp [hs, a8, a9, d1, d2, d3, d4, d5, d6, d7, d8, d9, d10]
  · have hf : fopB l = ([], [], (decB l).2.2) := by simp [fopB, he]
    rw [hf]
    have he' : ¬ ((decB l).2.2 : Int) = 0 := by omega
    simp [runFun_eq, h1, he]
end Go.Am
