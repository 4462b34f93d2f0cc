/- Walks: checksums, seals. -/
import Derived.Test.YtpmlioigoiipaaaJW2
set_option linter.unusedVariables false
set_option linter.unusedSimpArgs false
set_option maxRecDepth 10000
namespace Go.Am
open Go.Proofs

theorem crc_loop : ∀ (rest pre : List UInt8) (s : St) (r : Nat), pre.length + rest.length < 1000000000000 → r < 4294967296 →
    hd [3, 7, 8, 9] [] s = some ⟨[(3, .dat (.int .u32 r)), (7, .dat (.sl ((pre ++ rest).map B))), (8, .dat (.int .i64 (pre ++ rest).length)), (9, .dat (.int .i64 pre.length))], []⟩ →
    Ev (loopLim (exec KJ l57_1) s) fun q => q.1 = .exit 0 ∧ hd [3] [] q.2 = some ⟨[(3, .dat (.int .u32 (crcL rest r)))], []⟩ := by
  intro rest
  induction rest with
  | nil =>
    intro pre s r hi hr hs
    apply ev_loop
    simp [hs, crcL]
  | cons b rest ih =>
    intro pre s r hi hr hs
    apply ev_loop
    rw [List.length_cons] at hi
    have hx : Ix pre.length := by unfold Ix; omega
    have hb := byte_lt b
    have e1 : intE .xor .u32 (r : Int) (b.toNat : Int) = some (.dat (.int .u32 ((r ^^^ b.toNat : Nat) : Int))) := by
      have := bv_xor hr (b := b.toNat) (by omega)
      simp only [intE, bits_u32, wrap_u32]
      rw [← this]; rfl
    have e2 : (b.toNat : Int) % 4294967296 = b.toNat := by omega
    simp [hs, hx, ↓e1, e2]
    simp only [ev_bnd_iff]
    have hr2 : r ^^^ b.toNat < 4294967296 := Nat.xor_lt_two_pow (n := 32) hr (by omega)
    refine Ev.mono (crc_inner _ _ _ 8 0 _ (r ^^^ b.toNat) (by omega) hr2 (by simp; exact ⟨rfl, rfl, rfl⟩)) ?_
    rintro ⟨_, s⟩ ⟨rfl, hs⟩
    simp [hs, hx]
    refine Ev.mono (ih (pre ++ [b]) _ _ (by simp; omega) (crcBits_lt 8 hr2) (by simp)) ?_
    exact fun _ h => h

theorem crc_run (l : List UInt8) (h : l.length < 1000000000000) : KJ 57 [.dat (.sl (l.map B))] [] = some (.dat (.int .u32 (crcB l)), []) := by
  refine callT_ev (fn := fn57) rfl rfl ?_
  simp [runFun_eq]
  simp only [ev_bnd_iff]
  refine Ev.mono (crc_loop l [] _ 4294967295 (by simpa using h) (by omega) (by simp)) ?_
  rintro ⟨_, s⟩ ⟨rfl, hs⟩
  have hl := crcL_lt l (r := 4294967295) (by omega)
  have e1 : unE .xor (.dat (.int .u32 (crcL l 4294967295 : Nat))) = some (.dat (.int .u32 (crcB l))) := by
    have := bv_xor (a := 4294967295) (b := crcL l 4294967295) (by omega) hl
    simp only [unE, bits_u32, wrap_u32, crcB]
    rw [Nat.xor_comm (crcL l 4294967295), ← this]; rfl
  simp [hs, ↓e1]

theorem uintB_le : ∀ n, (uintB n).length ≤ n + 1 := by
  intro n
  induction n using Nat.strongRecOn with
  | _ n ih =>
    rw [uintB]
    split
    · have := ih (n / 128) (by omega)
      simp only [List.length_cons]
      omega
    · simp

theorem seal_run (p : List UInt8) (h : p.length < 10000000) : KJ 49 [.dat (.sl (p.map B))] [] = some (.dat (.sl ((sealB p).map B)), []) := by
  refine callT_ev (fn := fn49) rfl rfl ?_
  have hu := uintB_le p.length
  have h1 := uintBytes_run p.length (by omega)
  have h2 := join_run [uintB p.length, p] (by simp) (by simp; omega)
  have h3 := crc_run (uintB p.length ++ p) (by simp; omega)
  have h4 := sumBytes_run (crcB (uintB p.length ++ p)) (crcB_lt _)
  have h5 := join_run [uintB p.length ++ p, sumB (crcB (uintB p.length ++ p))] (by simp) (by simp [sumB]; omega)
  simp at h1 h2 h3 h4 h5
  simp [runFun_eq, h1, h2, h3, h4, h5, sealB]
end Go.Am
