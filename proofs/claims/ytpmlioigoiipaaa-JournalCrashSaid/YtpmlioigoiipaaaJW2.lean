/- Walks: joins, checksums, seals. -/
import Derived.Test.YtpmlioigoiipaaaJW1
set_option linter.unusedVariables false
set_option linter.unusedSimpArgs false
set_option maxRecDepth 10000
namespace Go.Am
open Go.Proofs

/-- a slice of bytes as a datum -/
@[simp] def Bs (l : List UInt8) : Dat := .sl (l.map B)

theorem join_loop : ∀ (rest pre : List (List UInt8)) (v : Nat) (s : St) (l : List UInt8), pre.length + rest.length < 1000000 → l.length + rest.flatten.length < 500000000000 → 
    hd [3, 6, 7, 8] [3, 6] s = some ⟨[(3, .rsl (4, 0) v 1 0 l.length), (6, .dat (.sl ((pre ++ rest).map Bs))), (7, .dat (.int .i64 (pre ++ rest).length)), (8, .dat (.int .i64 pre.length))], [((4, 0), .arr 1 v false (l.map B))]⟩ →
    Ev (loopLim (exec KJ l58_0) s) fun r => r.1 = .exit 0 ∧ ∃ v',
      hd [3] [] r.2 = some ⟨[(3, .rsl (4, 0) v' 1 0 (l ++ rest.flatten).length)], [((4, 0), .arr 1 v' false ((l ++ rest.flatten).map B))]⟩ := by
  intro rest
  induction rest with
  | nil =>
    intro pre v s l hi hl hs
    apply ev_loop
    simp [hs]
  | cons p rest ih =>
    intro pre v s l hi hl hs
    apply ev_loop
    rw [List.flatten_cons, List.length_append] at hl
    rw [List.length_cons] at hi
    have hx : Ix pre.length := by unfold Ix; omega
    have h1 : (l.length + p.length) * 2 ≤ 1099511627776 := by omega
    by_cases hpz : p = []
    · have h2 : l.length * 2 ≤ 1099511627776 := by omega
      simp [hs, hpz, hx, h2]
      refine Ev.mono (ih (pre ++ [p]) v _ l (by simp; omega) (by omega) (by simp [hpz])) ?_
      rintro r ⟨e, v', e2⟩
      exact ⟨e, v', by simpa using e2⟩
    · simp [hs, hpz, hx, h1]
      refine Ev.mono (ih (pre ++ [p]) (v + 1) _ (l ++ p) (by simp; omega) (by rw [List.length_append]; omega) (by simp)) ?_
      rintro r ⟨e, v', e2⟩
      exact ⟨e, v', by simpa [Nat.add_assoc] using e2⟩

theorem join_run (ps : List (List UInt8)) (h1 : ps.length < 1000000) (h2 : ps.flatten.length < 400000000000) : KJ 58 [.dat (.sl (ps.map Bs))] [] = some (.dat (.sl (ps.flatten.map B)), []) := by
  refine callT_ev (fn := fn58) rfl rfl ?_
  simp [runFun_eq]
  simp only [ev_bnd_iff]
  refine Ev.mono (join_loop ps [] 0 _ [] (by simpa using h1) (by rw [List.length_nil]; omega) (by simp)) ?_
  rintro ⟨_, s⟩ ⟨rfl, v', hs⟩
  simp [-List.length_flatten, -List.map_flatten] at hs
  simp only [← List.map_flatten] at *
  simp [hs, -List.length_flatten, -List.map_flatten]

theorem crc_inner (x y z : AVal) : ∀ (k i : Nat) (s : St) (r : Nat), i + k = 8 → r < 4294967296 →
    hd [3, 7, 8, 9, 17] [] s = some ⟨[(3, .dat (.int .u32 r)), (7, x), (8, y), (9, z), (17, .dat (.int .i64 i))], []⟩ →
    Ev (loopLim (exec KJ l57_0) s) fun q => q.1 = .exit 2 ∧ hd [3, 7, 8, 9] [] q.2 = some ⟨[(3, .dat (.int .u32 (crcBits k r))), (7, x), (8, y), (9, z)], []⟩ := by
  intro k
  induction k with
  | zero =>
    intro i s r hi hr hs
    apply ev_loop
    have : i = 8 := by omega
    subst this
    simp [hs, crcBits]
  | succ k ih =>
    intro i s r hi hr hs
    apply ev_loop
    have h1 : (i : Int) < 8 := by omega
    have h2 : (i : Int) + 1 < 1000000000000000 := by omega
    have h3 : -1000000000000000 < (i : Int) + 1 := by omega
    have hx : Ix i := by unfold Ix; omega
    have e1 : intE .and .u32 (r : Int) 1 = some (.dat (.int .u32 ((r % 2 : Nat) : Int))) := by
      have := bv_and hr (b := 1) (by omega)
      rw [Nat.and_one_is_mod] at this
      simp only [intE, bits_u32, wrap_u32]
      rw [← this]; rfl
    have e2 : intE .xor .u32 ((r : Int) / 2) 3988292384 = some (.dat (.int .u32 ((r / 2 ^^^ 3988292384 : Nat) : Int))) := by
      have := bv_xor (a := r / 2) (b := 3988292384) (by omega) (by omega)
      simp only [intE, bits_u32, wrap_u32]
      rw [← this, show ((r : Int) / 2) = ((r / 2 : Nat) : Int) from by omega]; rfl
    by_cases hb : r % 2 = 1
    · have h4 : (r : Int) % 2 = 1 := by omega
      have hc : crcBit r = r / 2 ^^^ 3988292384 := by simp [crcBit, hb]
      simp [hs, h1, hx, ↓e1, ↓e2, h4]
      refine Ev.mono (ih (i + 1) _ (crcBit r) (by omega) (crcBit_lt hr) (by simp [hc])) ?_
      exact fun _ h => h
    · have h4 : ¬ (r : Int) % 2 = 1 := by omega
      have hc : crcBit r = r / 2 := by simp [crcBit, hb]
      simp [hs, h1, hx, ↓e1, ↓e2, h4]
      refine Ev.mono (ih (i + 1) _ (crcBit r) (by omega) (crcBit_lt hr) (by simp [hc])) ?_
      exact fun _ h => h
end Go.Am
