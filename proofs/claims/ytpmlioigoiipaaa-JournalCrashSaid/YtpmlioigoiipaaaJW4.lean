/- Walks: numbers and frames, decoded. -/
import Derived.Test.YtpmlioigoiipaaaJW3
set_option linter.unusedVariables false
set_option linter.unusedSimpArgs false
set_option maxRecDepth 10000
namespace Go.Am
open Go.Proofs

def lead : Nat → List UInt8 → Nat
  | 0, _ => 0
  | _ + 1, [] => 0
  | n + 1, b :: r => if 128 ≤ b.toNat then lead n r + 1 else 0

def low : Nat → List UInt8 → Nat
  | 0, _ => 0
  | _ + 1, [] => 0
  | n + 1, b :: r => b.toNat % 128 + 128 * low n r

def decB (l : List UInt8) : Nat × Nat × Nat :=
  if lead 9 l = 9 then (0, 0, 2) else
  if lead 9 l = l.length then (0, 0, 22) else
  if 0 < lead 9 l ∧ l.getD (lead 9 l) 0 = 0 then (0, 0, 3) else
  if 4611686018427387904 < low (lead 9 l + 1) l then (0, 0, 2) else (low (lead 9 l + 1) l, lead 9 l + 1, 0)

theorem low_lt : ∀ (n : Nat) (l : List UInt8), low n l < 128 ^ n
  | 0, l => by simp [low]
  | n + 1, [] => by simp only [low]; exact Nat.pow_pos (by omega)
  | n + 1, b :: r => by
    have := low_lt n r
    simp only [low, Nat.pow_succ]
    omega

theorem low_succ : ∀ (n : Nat) (l : List UInt8) (b : UInt8), l[n]? = some b → low (n + 1) l = low n l + 128 ^ n * (b.toNat % 128)
  | 0, [], b, h => by simp at h
  | 0, c :: r, b, h => by simp at h; subst h; simp [low]
  | n + 1, [], b, h => by simp at h
  | n + 1, c :: r, b, h => by
    simp at h
    rw [low, low_succ n r b h]
    simp only [low, Nat.pow_succ]
    rw [Nat.mul_add, ← Nat.mul_assoc, Nat.mul_comm 128 (128 ^ n)]
    omega

/-- so many bytes lead, and the next one does not -/
theorem lead_eq : ∀ (m a : Nat) (l : List UInt8), a ≤ m → (∀ i, i < a → ∃ b, l[i]? = some b ∧ 128 ≤ b.toNat) → (a = m ∨ a = l.length ∨ ∃ b, l[a]? = some b ∧ b.toNat < 128) → lead m l = a
  | 0, a, l, h, _, _ => by simp [lead]; omega
  | m + 1, a, [], h, h1, h2 => by
    simp only [lead]
    cases a with
    | zero => rfl
    | succ a => obtain ⟨b, hb, _⟩ := h1 0 (by omega); simp at hb
  | m + 1, 0, b :: r, h, h1, h2 => by
    simp only [lead]
    rcases h2 with h2 | h2 | ⟨c, hc, hlt⟩
    · omega
    · simp at h2
    · simp at hc; subst hc; rw [if_neg (by omega)]
  | m + 1, a + 1, b :: r, h, h1, h2 => by
    simp only [lead]
    obtain ⟨c, hc, hge⟩ := h1 0 (by omega)
    simp at hc; subst hc
    rw [if_pos hge, lead_eq m a r (by omega) (fun i hi => by have := h1 (i + 1) (by omega); simpa using this) (by simpa using h2)]

theorem shl_u64 (x i : Nat) (hx : x < 128) (hi : i ≤ 8) : shiftE .shl .u64 (x : Int) (7 * (i : Int)) = some (.dat (.int .u64 ((2 ^ (7 * i) * x : Nat) : Int))) := by
  have h1 : ¬ (7 * (i : Int)) < 0 := by omega
  have h2 : (7 * (i : Int)).toNat = 7 * i := by omega
  have h3 : min (7 * i) 64 = 7 * i := by omega
  simp only [shiftE, h1, if_false, h2, bits_u64, h3, wrap_u64]
  have h4 : 2 ^ (7 * i) ≤ 2 ^ 56 := Nat.pow_le_pow_right (by omega) (by omega)
  have h5 : 2 ^ (7 * i) * x ≤ 2 ^ 56 * 127 := Nat.mul_le_mul h4 (by omega)
  have h6 : ((x : Int) * 2 ^ (7 * i)) = ((2 ^ (7 * i) * x : Nat) : Int) := by push_cast; rw [Int.mul_comm]
  rw [h6, Int.emod_eq_of_lt (by omega) (by omega)]

theorem or_u64 (v x i : Nat) (hv : v < 128 ^ i) (hx : x < 128) (hi : i ≤ 8) : intE .or .u64 (v : Int) ((2 ^ (7 * i) * x : Nat) : Int) = some (.dat (.int .u64 ((v + 128 ^ i * x : Nat) : Int))) := by
  have e : 128 ^ i = 2 ^ (7 * i) := by rw [Nat.pow_mul]
  have h4 : 2 ^ (7 * i) ≤ 2 ^ 56 := Nat.pow_le_pow_right (by omega) (by omega)
  have h5 : 2 ^ (7 * i) * x ≤ 2 ^ 56 * 127 := Nat.mul_le_mul h4 (by omega)
  rw [(intE_bits (k := .u64) rfl (by rw [bits_u64]; omega) (by rw [bits_u64]; omega)).2.1]
  rw [Nat.or_comm, e, ← Nat.two_pow_add_eq_or_of_lt (by omega), Nat.add_comm]

theorem dec_loop (l : List UInt8) (hl : l.length < 1000000000000) : ∀ (k i : Nat) (s : St), i + k = 9 → i ≤ l.length → (∀ j, j < i → ∃ b, l[j]? = some b ∧ 128 ≤ b.toNat) →
    hd [0, 5, 6] [] s = some ⟨[(0, .dat (.sl (l.map B))), (5, .dat (.int .u64 (low i l))), (6, .dat (.int .i64 i))], []⟩ →
    Ev (loopLim (exec KJ l55_0) s) fun q =>
      (q.1 = .ret ∧ lead 9 l = 9 ∧ hd [2, 3, 4] [] q.2 = some ⟨[(2, .dat (.int .i64 0)), (3, .dat (.int .i64 0)), (4, .dat (.int .i64 2))], []⟩) ∨
      (q.1 = .ret ∧ lead 9 l ≠ 9 ∧ lead 9 l = l.length ∧ hd [2, 3, 4] [] q.2 = some ⟨[(2, .dat (.int .i64 0)), (3, .dat (.int .i64 0)), (4, .dat (.int .i64 22))], []⟩) ∨
      (q.1 = .exit 0 ∧ ∃ a b, a < 9 ∧ lead 9 l = a ∧ l[a]? = some b ∧ b.toNat < 128 ∧ hd [0, 5, 6] [] q.2 = some ⟨[(0, .dat (.sl (l.map B))), (5, .dat (.int .u64 (low a l))), (6, .dat (.int .i64 a))], []⟩) := by
  intro k
  induction k with
  | zero =>
    intro i s hi hil hb hs
    apply ev_loop
    have : i = 9 := by omega
    subst this
    have := lead_eq 9 9 l (by omega) hb (.inl rfl)
    simp [hs, this]
  | succ k ih =>
    intro i s hi hil hb hs
    apply ev_loop
    have h9 : ¬ (i : Int) = 9 := by omega
    have h9' : ¬ i = 9 := by omega
    by_cases hlen : i = l.length
    · have := lead_eq 9 i l (by omega) hb (.inr (.inl hlen))
      simp [hs, h9, h9', ← hlen, this]
    · obtain ⟨b, hb2⟩ := get_at l (i := i) (by omega)
      have hbl := byte_lt b
      by_cases hlt : b.toNat < 128
      · have := lead_eq 9 i l (by omega) hb (.inr (.inr ⟨b, hb2, hlt⟩))
        have h1 : (b.toNat : Int) < 128 := by omega
        simp [hs, h9, h9', hlen, hb2, h1, this]
        exact ⟨i, by omega, rfl, b, hb2, hlt, rfl, rfl⟩
      · have h1 : ¬ (b.toNat : Int) < 128 := by omega
        have h2 : ((b.toNat : Int) - 128) % 256 = ((b.toNat - 128 : Nat) : Int) := by omega
        have h3 : ((b.toNat - 128 : Nat) : Int) % 18446744073709551616 = ((b.toNat - 128 : Nat) : Int) := by omega
        have h4 : 7 * (i : Int) < 1000000000000000 := by omega
        have h5 : -1000000000000000 < 7 * (i : Int) := by omega
        have h6 := shl_u64 (b.toNat - 128) i (by omega) (by omega)
        have h7 := or_u64 (low i l) (b.toNat - 128) i (low_lt i l) (by omega) (by omega)
        have hx : Ix i := by unfold Ix; omega
        simp at h7
        simp [hs, h9, h9', hlen, hb2, h1, h2, h3, h4, h5, ↓h6, h7, hx]
        refine Ev.mono (ih (i + 1) _ (by omega) (by omega) (fun j hj => ?_) ?_) (fun q h => by simpa using h)
        · by_cases hji : j = i
          · exact ⟨b, by rw [hji]; exact hb2, by omega⟩
          · exact hb j (by omega)
        · rw [low_succ i l b hb2, show b.toNat % 128 = b.toNat - 128 from by omega]
          simp

theorem dec_run (l : List UInt8) (hl : l.length < 1000000000000) : KJ 55 [.dat (.sl (l.map B))] [] = some (.tup [.dat (.int .i64 (decB l).1), .dat (.int .i64 (decB l).2.1), .dat (.int .i64 (decB l).2.2)], []) := by
  refine callT_ev (fn := fn55) rfl rfl ?_
  simp [runFun_eq]
  simp only [ev_bnd_iff]
  refine Ev.mono (dec_loop l hl 9 0 _ (by omega) (by omega) (by omega) (by simp [low])) ?_
  rintro ⟨x, s⟩ (⟨rfl, h9, hs⟩ | ⟨rfl, h9, h10, hs⟩ | ⟨rfl, a, b, ha, h9, hb, hlt, hs⟩)
  · dsimp only at hs
    simp only [blkK, endK_hd hs, seqK]
    simp [decB, h9, endK_hd hs]
  · dsimp only at hs
    simp only [blkK, endK_hd hs, seqK]
    simp [decB, ← h10, h9, endK_hd hs]
  · have hle : a < l.length := by
      by_cases h : a < l.length
      · exact h
      · rw [List.getElem?_eq_none (by omega)] at hb; cases hb
    have hd0 : l.getD a 0 = b := by rw [List.getD_eq_getElem?_getD, hb]; rfl
    have hbz : (b = 0) ↔ ((b.toNat : Int) = 0) := by
      constructor
      · rintro rfl; rfl
      · intro h; exact UInt8.toNat_inj.1 (by have : (0 : UInt8).toNat = 0 := rfl; omega)
    dsimp only at hs
    have hn9 : ¬ a = 9 := by omega
    have hnl : ¬ a = l.length := by omega
    have hlow := low_succ a l b hb
    have hm : b.toNat % 128 = b.toNat := by omega
    have h2 := shl_u64 b.toNat a hlt (by omega)
    have h3 := or_u64 (low a l) b.toNat a (low_lt a l) hlt (by omega)
    have h4 : 7 * (a : Int) < 1000000000000000 := by omega
    have h5 : -1000000000000000 < 7 * (a : Int) := by omega
    have h6 : (b.toNat : Int) % 18446744073709551616 = b.toNat := by omega
    have hx : Ix a := by unfold Ix; omega
    have hv := low_lt (a + 1) l
    have hp : 128 ^ (a + 1) ≤ 128 ^ 9 := Nat.pow_le_pow_right (by omega) (by omega)
    simp at h3
    rw [hm] at hlow
    have hdec : decB l = if 0 < a ∧ b = 0 then (0, 0, 3) else if 4611686018427387904 < low (a + 1) l then (0, 0, 2) else (low (a + 1) l, a + 1, 0) := by
      simp only [decB, h9, hn9, hnl, hd0, if_false]
    by_cases hf : 0 < a ∧ (b.toNat : Int) = 0
    · rw [if_pos ⟨hf.1, hbz.2 hf.2⟩] at hdec
      rw [hdec]
      simp [hs, hb, hf.1, hf.2]
    · rw [if_neg (fun h => hf ⟨h.1, hbz.1 h.2⟩), hlow] at hdec
      have hpick : b.toNat = 0 → a = 0 := by
        intro h
        by_cases ha0 : a = 0
        · exact ha0
        · exact absurd ⟨by omega, by omega⟩ hf
      by_cases hz : b.toNat = 0
      · have ha0 := hpick hz
        subst ha0
        have hb0 : b = 0 := hbz.2 (by omega)
        rw [hz] at hdec h3
        simp [low] at hdec
        rw [hdec]
        subst hb0
        simp [hs, hb, low, show intE .or .u64 0 0 = some (.dat (.int .u64 0)) from rfl]
      · have hz' : ¬ (b.toNat : Int) = 0 := by omega
        have hX : ((128 ^ a * b.toNat : Nat) : Int) = 128 ^ a * (b.toNat : Int) := by simp
        rw [← hX] at h3
        generalize 128 ^ a * b.toNat = X at *
        by_cases hbig : 4611686018427387904 < low a l + X
        · rw [if_pos hbig] at hdec
          have hbig' : (4611686018427387904 : Int) < (low a l : Int) + X := by omega
          rw [hdec]
          simp [hs, hb, hz, hz', h4, h5, h6, ↓h2, h3, hbig']
        · rw [if_neg hbig] at hdec
          have hbig' : ¬ (4611686018427387904 : Int) < (low a l : Int) + X := by omega
          have hw : IntKind.wrap .i64 ((low a l : Int) + X) = (low a l : Int) + X := wrap_i64_all (by omega) (by omega)
          rw [hdec]
          simp [hs, hb, hz, hz', h4, h5, h6, ↓h2, h3, hbig', hw, hx]
end Go.Am
