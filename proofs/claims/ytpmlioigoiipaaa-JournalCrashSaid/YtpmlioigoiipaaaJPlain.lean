/- Plain laws: numbers in bytes, frames, images, records. -/
import Derived.Test.YtpmlioigoiipaaaJW13
set_option linter.unusedVariables false
set_option linter.unusedSimpArgs false
namespace Go.Am

theorem ofNat_toNat_lt {n : Nat} (h : n < 256) : (UInt8.ofNat n).toNat = n := by
  rw [UInt8.toNat_ofNat']
  exact Nat.mod_eq_of_lt (by simpa using h)

theorem ofNat_toNat (n : Nat) : (UInt8.ofNat n).toNat = n % 256 := by
  rw [UInt8.toNat_ofNat']

theorem num4_sum {x : Nat} (h : x < 4294967296) (r : List UInt8) : num4 (sumB x ++ r) = x := by
  simp only [num4, sumB, List.cons_append, List.nil_append, List.getD_cons_zero, List.getD_cons_succ, ofNat_toNat]
  omega

theorem pos_ne {α : Type} {l : List α} (h : l ≠ []) : 0 < l.length := List.length_pos_iff.2 h
theorem flatMap_same {α β : Type} {f g : α → List β} : ∀ {l : List α}, (∀ a ∈ l, f a = g a) → l.flatMap f = l.flatMap g
  | [], _ => rfl
  | a :: l, h => by rw [List.flatMap_cons, List.flatMap_cons, h a (by simp), flatMap_same fun b hb => h b (by simp [hb])]
theorem uintB_ne (n : Nat) : uintB n ≠ [] := by
  rw [uintB]
  split <;> simp

/-- the bytes of a number, read again -/
theorem uintB_low : ∀ (n : Nat) (r : List UInt8), low (uintB n).length (uintB n ++ r) = n := by
  intro n
  induction n using Nat.strongRecOn with
  | _ n ih =>
    intro r
    rw [uintB]
    split
    · rename_i h
      have := ih (n / 128) (by omega) r
      simp only [List.length_cons, List.cons_append, low, this, ofNat_toNat]
      omega
    · simp only [List.length_cons, List.length_nil, List.cons_append, List.nil_append, low, ofNat_toNat]
      omega

theorem uintB_lead : ∀ (n m : Nat) (r : List UInt8), (uintB n).length ≤ m → lead m (uintB n ++ r) + 1 = (uintB n).length := by
  intro n
  induction n using Nat.strongRecOn with
  | _ n ih =>
    intro m r hm
    rw [uintB] at hm ⊢
    split
    · rename_i h
      rw [if_pos h, List.length_cons] at hm
      obtain ⟨m, rfl⟩ : ∃ k, m = k + 1 := ⟨m - 1, by omega⟩
      have := ih (n / 128) (by omega) m r (by omega)
      simp only [List.length_cons, List.cons_append, lead, ofNat_toNat]
      rw [if_pos (by omega)]
      omega
    · rename_i h
      rw [if_neg h, List.length_singleton] at hm
      obtain ⟨m, rfl⟩ : ∃ k, m = k + 1 := ⟨m - 1, by omega⟩
      simp only [List.length_cons, List.length_nil, List.cons_append, List.nil_append, lead, ofNat_toNat]
      rw [if_neg (by omega)]

/-- the last byte is no zero, if there are more -/
theorem uintB_last : ∀ (n : Nat) (r : List UInt8), 1 < (uintB n).length → (uintB n ++ r).getD ((uintB n).length - 1) 0 ≠ 0 := by
  intro n
  induction n using Nat.strongRecOn with
  | _ n ih =>
    intro r h
    rw [uintB] at h ⊢
    split
    · rename_i hn
      rw [if_pos hn, List.length_cons] at h
      rw [List.length_cons, List.cons_append]
      by_cases h1 : 1 < (uintB (n / 128)).length
      · have := ih (n / 128) (by omega) r h1
        rw [show (uintB (n / 128)).length + 1 - 1 = ((uintB (n / 128)).length - 1) + 1 from by omega, List.getD_cons_succ]
        exact this
      · have h2 : (uintB (n / 128)).length = 1 := by
          have := uintB_ne (n / 128)
          have : 0 < (uintB (n / 128)).length := pos_ne this
          omega
        have h3 : ¬ 128 ≤ n / 128 := by
          intro h4
          rw [uintB, if_pos h4, List.length_cons] at h2
          have := pos_ne (uintB_ne (n / 128 / 128))
          omega
        rw [h2, uintB, if_neg h3]
        simp only [Nat.add_sub_cancel, List.cons_append, List.nil_append, List.getD_cons_succ, List.getD_cons_zero]
        intro h0
        have := congrArg UInt8.toNat h0
        rw [ofNat_toNat] at this
        have h5 : (0 : UInt8).toNat = 0 := rfl
        omega
    · rename_i hn
      rw [if_neg hn, List.length_singleton] at h
      omega

theorem uintB_le9 : ∀ (k n : Nat), n < 128 ^ (k + 1) → (uintB n).length ≤ k + 1
  | 0, n, h => by
    rw [uintB, if_neg (by omega)]
    simp
  | k + 1, n, h => by
    rw [uintB]
    split
    · have := uintB_le9 k (n / 128) (by rw [Nat.pow_succ] at h; omega)
      simp only [List.length_cons]
      omega
    · simp

theorem decB_uint (n : Nat) (r : List UInt8) (hn : n < 1000000000) : decB (uintB n ++ r) = (n, (uintB n).length, 0) := by
  have h9 : (uintB n).length ≤ 5 := uintB_le9 4 n (by omega)
  have hl := uintB_lead n 9 r (by omega)
  have hp := pos_ne (uintB_ne n)
  have hlow := uintB_low n r
  unfold decB
  rw [if_neg (by omega), if_neg (by rw [List.length_append]; omega), hl, hlow, if_neg ?_, if_neg (by omega)]
  rintro ⟨h1, h2⟩
  refine uintB_last n r (by omega) ?_
  rw [show (uintB n).length - 1 = lead 9 (uintB n ++ r) from by omega]
  exact h2

theorem fopB_seal (p r : List UInt8) (hp : p.length < 1000000000) : fopB (sealB p ++ r) = (p, r, 0) := by
  have hd : decB (sealB p ++ r) = (p.length, (uintB p.length).length, 0) := by
    rw [sealB, List.append_assoc, List.append_assoc]
    exact decB_uint _ _ hp
  have hs : (sumB (crcB (uintB p.length ++ p))).length = 4 := rfl
  unfold fopB
  rw [hd]
  dsimp only
  have e1 : (sealB p ++ r).take ((uintB p.length).length + p.length) = uintB p.length ++ p := by
    rw [sealB, List.append_assoc, List.take_left' (by simp)]
  have e2 : (sealB p ++ r).drop ((uintB p.length).length + p.length) = sumB (crcB (uintB p.length ++ p)) ++ r := by
    rw [sealB, List.append_assoc, List.drop_left' (by simp)]
  have e3 : ((sealB p ++ r).drop (uintB p.length).length).take p.length = p := by
    rw [sealB, List.append_assoc, List.append_assoc, List.drop_left' rfl, List.take_left' rfl]
  have e4 : (sealB p ++ r).drop ((uintB p.length).length + p.length + 4) = r := by
    rw [← List.drop_drop, e2, List.drop_left' hs]
  rw [if_neg (by simp), if_neg (by simp [sealB, hs]; omega), e1, e2, e3, e4, if_pos (by rw [List.take_left' hs])]

/-! ### images -/

theorem secB_64 (e n j k : Nat) (d : List UInt8) : (secB e n j k d).length = 64 := by
  have : (chunk d j).length ≤ 52 := by simp [chunk]; omega
  simp [secB, sumB, le2]
  omega

theorem secB_ep {e : Nat} (he : e < 4294967296) (n j k : Nat) (d : List UInt8) : num4 (secB e n j k d) = e := by
  simp only [secB, List.append_assoc]
  exact num4_sum he _

theorem secB_no {n : Nat} (hn : n < 4294967296) (e j k : Nat) (d : List UInt8) : num4 ((secB e n j k d).drop 4) = n := by
  simp only [secB, List.append_assoc]
  rw [List.drop_left' (by rfl)]
  exact num4_sum hn _

theorem secB_cnt {k : Nat} (hk : k < 65536) (e n j : Nat) (d : List UInt8) : recB.num2 (secB e n j k d) = k := by
  have h : (secB e n j k d) = (sumB e ++ sumB n ++ le2 j) ++ (le2 k ++ (chunk d j ++ List.replicate (52 - (chunk d j).length) 0)) := by simp [secB]
  have e1 : (secB e n j k d).getD 10 0 = UInt8.ofNat k := by rw [h]; rfl
  have e2 : (secB e n j k d).getD 11 0 = UInt8.ofNat (k / 256) := by rw [h]; rfl
  rw [recB.num2, e1, e2, ofNat_toNat, ofNat_toNat]
  omega

theorem secB_pay (e n j k : Nat) (d : List UInt8) : (secB e n j k d).drop 12 = chunk d j ++ List.replicate (52 - (chunk d j).length) 0 := by
  have h : (secB e n j k d) = (sumB e ++ sumB n ++ le2 j ++ le2 k) ++ (chunk d j ++ List.replicate (52 - (chunk d j).length) 0) := by simp [secB]
  rw [h, List.drop_left' (by rfl)]

theorem pad_chunk (d : List UInt8) (k j : Nat) (hj : j < k) (hk : d.length ≤ 52 * k) : chunk d j ++ List.replicate (52 - (chunk d j).length) 0 = ((d ++ List.replicate (52 * k - d.length) (0 : UInt8)).drop (52 * j)).take 52 := by
  rw [List.drop_append, List.take_append, List.drop_replicate, List.take_replicate]
  congr 1
  congr 1
  simp only [chunk, List.length_take, List.length_drop]
  omega

theorem take_chunks {α : Type} (Z : List α) : ∀ m, (List.range m).flatMap (fun j => (Z.drop (52 * j)).take 52) = Z.take (52 * m)
  | 0 => by simp
  | m + 1 => by
    rw [List.range_succ, List.flatMap_append, take_chunks Z m]
    simp only [List.flatMap_cons, List.flatMap_nil, List.append_nil]
    rw [Nat.mul_succ, List.take_add]

theorem pay_image (p : List UInt8) (n e : Nat) : ∃ r, pay (imageB p n e) = sealB p ++ r := by
  refine ⟨List.replicate (52 * cntB (sealB p) - (sealB p).length) 0, ?_⟩
  have hc : (sealB p).length ≤ 52 * cntB (sealB p) := by unfold cntB; omega
  have h1 : pay (imageB p n e) = (List.range (cntB (sealB p))).flatMap fun j => (((sealB p) ++ List.replicate (52 * cntB (sealB p) - (sealB p).length) (0 : UInt8)).drop (52 * j)).take 52 := by
    rw [pay, imageB, List.flatMap_map]
    refine flatMap_same fun j hj => ?_
    rw [secB_pay, pad_chunk _ _ _ (List.mem_range.1 hj) hc]
  rw [h1, take_chunks, List.take_of_length_le (by simp; omega)]

theorem imageB_get (p : List UInt8) (n e j : Nat) (h : j < (imageB p n e).length) : (imageB p n e)[j]? = some (secB e n j (imageB p n e).length (sealB p)) := by
  rw [imageB_len] at h
  rw [imageB_len]
  simp [imageB, h]

end Go.Am
