/- Walks: bytes, numbers, checksums, frames. -/
import Derived.Test.YtpmlioigoiipaaaJTbl
import Derived.Test.YtpmlioigoiipaaaJMath
set_option linter.unusedVariables false
set_option linter.unusedSimpArgs false
set_option maxRecDepth 10000
namespace Go.Am
open Go.Proofs

noncomputable abbrev KJ : Orc := callT tblJ

theorem equal_run (a b : List UInt8) : KJ 48 [.dat (.sl (a.map B)), .dat (.sl (b.map B))] [] = some (.dat (.bool (a == b)), []) :=
  callT_ev (fn := fn48) rfl rfl (by simp [runFun_eq])
theorem same_run (a b : List UInt8) : KJ 14 [.dat (.sl (a.map B)), .dat (.sl (b.map B))] [] = some (.dat (.bool (a == b)), []) :=
  callT_ev (fn := fn14) rfl rfl (by simp [runFun_eq])

theorem sumBytes_run (c : Nat) (h : c < 4294967296) : KJ 56 [.dat (.int .u32 c)] [] = some (.dat (.sl ((sumB c).map B)), []) :=
  callT_ev (fn := fn56) rfl rfl (by simp [runFun_eq, sumB])

theorem uint_loop : ∀ (n v : Nat) (s : St) (l : List UInt8), n < 1000000000000 → l.length + n < 100000000000 →
    hd [0, 3] [3] s = some ⟨[(0, .dat (.int .i64 n)), (3, .rsl (4, 0) v 1 0 l.length)], [((4, 0), .arr 1 v false (l.map B))]⟩ →
    Ev (loopLim (exec KJ l59_0) s) fun r => r.1 = .exit 0 ∧ ∃ v' k m, m < 128 ∧ uintB n = k ++ [UInt8.ofNat m] ∧ k.length ≤ n ∧
      hd [0, 3] [] r.2 = some ⟨[(0, .dat (.int .i64 (m : Nat))), (3, .rsl (4, 0) v' 1 0 (l ++ k).length)], [((4, 0), .arr 1 v' false ((l ++ k).map B))]⟩ := by
  intro n
  induction n using Nat.strongRecOn with
  | _ n ih =>
    intro v s l hn hl hs
    apply ev_loop
    by_cases h : 128 ≤ n
    · have h' : (128 : Int) ≤ n := by omega
      have h1 : (l.length + 1) * 2 ≤ 1099511627776 := by omega
      have h2 : -1000000000000000 < (n : Int) % 128 + 128 := by omega
      have h3 : (n : Int) % 128 + 128 < 1000000000000000 := by omega
      have h4 : -1000000000000000 < (n : Int) / 128 := by omega
      have h5 : (n : Int) / 128 < 1000000000000000 := by omega
      simp [hs, h', h1, h2, h3, h4, h5]
      refine (ih (n / 128) (by omega) (v + 1) _ (l ++ [UInt8.ofNat (n % 128 + 128)]) (by omega) (by simp; omega) (by simp)).mono ?_
      rintro r ⟨e1, v', k, m, e2, e3, e4, e5⟩
      refine ⟨e1, v', UInt8.ofNat (n % 128 + 128) :: k, m, e2, ?_, by simp; omega, by simpa using e5⟩
      rw [uintB, if_pos h, e3]; rfl
    · have h' : ¬ (128 : Int) ≤ n := by omega
      simp [hs, h', h]
      refine ⟨v, [], n, by omega, ?_, by simp, rfl, rfl, rfl⟩
      rw [uintB, if_neg h]; rfl

theorem uintBytes_run (n : Nat) (hn : n < 1000000000) : KJ 59 [.dat (.int .i64 n)] [] = some (.dat (.sl ((uintB n).map B)), []) := by
  refine callT_ev (fn := fn59) rfl rfl ?_
  simp [runFun_eq]
  simp only [ev_bnd_iff]
  refine (uint_loop n 0 _ [] (by omega) (by simp; omega) (by simp)).mono ?_
  rintro ⟨_, s⟩ ⟨rfl, v', k, m, hm, e, hk, hs⟩
  have h1 : (k.length + 1) * 2 ≤ 1099511627776 := by omega
  simp at hs
  simp [hs, e, h1]
end Go.Am
