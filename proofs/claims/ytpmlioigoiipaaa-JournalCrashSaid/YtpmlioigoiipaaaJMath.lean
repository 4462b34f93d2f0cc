/- Plain definitions and facts: bytes, numbers in bytes, frames. -/
import Derived.Test.YtpmlioigoiipaaaAmWalk
set_option linter.unusedVariables false
namespace Go.Am

theorem ite_t {α : Type} {c : Prop} [Decidable c] {a b : α} (h : c) : ite c a b = a := if_pos h
theorem ite_f {α : Type} {c : Prop} [Decidable c] {a b : α} (h : ¬ c) : ite c a b = b := if_neg h
theorem dec_t {c : Prop} [Decidable c] (h : c) : decide c = true := by simp [h]
theorem dec_f {c : Prop} [Decidable c] (h : ¬ c) : decide c = false := by simp [h]

@[simp] theorem get_mid {α : Type} (l r : List α) (a : α) : (l ++ a :: r)[l.length]? = some a := by simp
@[simp] theorem get_mid_map {α β : Type} (f : β → α) (l : List β) (r : List α) (a : α) : (l.map f ++ a :: r)[l.length]? = some a := by
  rw [List.getElem?_append_right (by simp)]
  simp

@[simp] theorem lt_mid (a b : Nat) : ((a : Int) < a + (b + 1)) = True := by simp; omega
@[simp] theorem lt_mid1 (a : Nat) : ((a : Int) < a + 1) = True := by simp; omega
@[simp] theorem nn_succ (a : Nat) : (0 ≤ (a : Int) + 1) = True := by simp; omega
@[simp] theorem toNat_succ (a : Nat) : ((a : Int) + 1).toNat = a + 1 := by omega
theorem get_at {α : Type} (l : List α) {i : Nat} (h : i < l.length) : ∃ a, l[i]? = some a := ⟨l[i], by simp [h]⟩
theorem take_map {α β : Type} (f : α → β) (n : Nat) (l : List α) : (l.map f).take n = (l.take n).map f := List.map_take.symm
theorem drop_map {α β : Type} (f : α → β) (n : Nat) (l : List α) : (l.map f).drop n = (l.drop n).map f := List.map_drop.symm
theorem drop12 {α : Type} (a0 a1 a2 a3 a4 a5 a6 a7 a8 a9 a10 a11 : α) (T : List α) (c : Nat) : List.drop (12 + c) (a0 :: a1 :: a2 :: a3 :: a4 :: a5 :: a6 :: a7 :: a8 :: a9 :: a10 :: a11 :: T) = T.drop c := by rw [Nat.add_comm]; rfl
theorem take12 {α : Type} (a0 a1 a2 a3 a4 a5 a6 a7 a8 a9 a10 a11 : α) (T : List α) (c : Nat) : List.take (12 + c) (a0 :: a1 :: a2 :: a3 :: a4 :: a5 :: a6 :: a7 :: a8 :: a9 :: a10 :: a11 :: T) = a0 :: a1 :: a2 :: a3 :: a4 :: a5 :: a6 :: a7 :: a8 :: a9 :: a10 :: a11 :: T.take c := by rw [Nat.add_comm]; rfl
theorem drop_none {α : Type} {l : List α} {n : Nat} (h : l.length ≤ n) : l.drop n = [] := List.drop_of_length_le h
attribute [simp] Int.natCast_inj
theorem get_at' {α : Type} (l : List α) {i : Nat} (h : i < l.length) : ∃ a, l[i]? = some a ∧ ∀ h : i < l.length, l[i] = a := ⟨l[i], by simp [h], fun _ => rfl⟩
@[simp] theorem neg_cast (i : Nat) : ((i : Int) < 0) = False := by simp
/-- a position and the next one -/
def Ix (n : Nat) : Prop := n < 100000000000000
@[simp] theorem wrap_succ {n : Nat} (h : Ix n) : IntKind.wrap .i64 ((n : Int) + 1) = (n : Int) + 1 := by
  unfold Ix at h
  exact wrap_i64 (by omega) (by omega)

theorem bv_xor {a b : Nat} (ha : a < 4294967296) (hb : b < 4294967296) : (((BitVec.ofNat 32 a ^^^ BitVec.ofNat 32 b).toNat : Nat) : Int) % 4294967296 = ((a ^^^ b : Nat) : Int) := by
  have h : (BitVec.ofNat 32 a ^^^ BitVec.ofNat 32 b).toNat = a ^^^ b := by
    rw [BitVec.toNat_xor, BitVec.toNat_ofNat, BitVec.toNat_ofNat, Nat.mod_eq_of_lt ha, Nat.mod_eq_of_lt hb]
  have := Nat.xor_lt_two_pow (n := 32) ha hb
  omega
theorem bv_or {a b : Nat} (ha : a < 4294967296) (hb : b < 4294967296) : (((BitVec.ofNat 32 a ||| BitVec.ofNat 32 b).toNat : Nat) : Int) % 4294967296 = ((a ||| b : Nat) : Int) := by
  have h : (BitVec.ofNat 32 a ||| BitVec.ofNat 32 b).toNat = a ||| b := by
    rw [BitVec.toNat_or, BitVec.toNat_ofNat, BitVec.toNat_ofNat, Nat.mod_eq_of_lt ha, Nat.mod_eq_of_lt hb]
  have := Nat.or_lt_two_pow (n := 32) ha hb
  omega
theorem bv_and {a b : Nat} (ha : a < 4294967296) (hb : b < 4294967296) : (((BitVec.ofNat 32 a &&& BitVec.ofNat 32 b).toNat : Nat) : Int) % 4294967296 = ((a &&& b : Nat) : Int) := by
  have h : (BitVec.ofNat 32 a &&& BitVec.ofNat 32 b).toNat = a &&& b := by
    rw [BitVec.toNat_and, BitVec.toNat_ofNat, BitVec.toNat_ofNat, Nat.mod_eq_of_lt ha, Nat.mod_eq_of_lt hb]
  have := Nat.and_lt_two_pow (n := 32) a hb
  omega

/-- a byte as a datum -/
@[simp] def B (b : UInt8) : Dat := .int .u8 (b.toNat : Int)


theorem byte_lt (b : UInt8) : b.toNat < 256 := by have := b.toBitVec.isLt; simpa using this

def num4 (l : List UInt8) : Nat := (l.getD 0 0).toNat + 256 * (l.getD 1 0).toNat + 65536 * (l.getD 2 0).toNat + 16777216 * (l.getD 3 0).toNat

def uintB (n : Nat) : List UInt8 := if 128 ≤ n then UInt8.ofNat (n % 128 + 128) :: uintB (n / 128) else [UInt8.ofNat n]
  termination_by n

def crcBit (r : Nat) : Nat := if r % 2 = 1 then (r / 2) ^^^ 3988292384 else r / 2
def crcBits : Nat → Nat → Nat
  | 0, r => r
  | n + 1, r => crcBits n (crcBit r)
def crcL : List UInt8 → Nat → Nat
  | [], r => r
  | b :: l, r => crcL l (crcBits 8 (r ^^^ b.toNat))
def crcB (l : List UInt8) : Nat := crcL l 4294967295 ^^^ 4294967295

def sumB (c : Nat) : List UInt8 := [UInt8.ofNat c, UInt8.ofNat (c / 256), UInt8.ofNat (c / 65536), UInt8.ofNat (c / 16777216)]

def sealB (p : List UInt8) : List UInt8 := (uintB p.length ++ p) ++ sumB (crcB (uintB p.length ++ p))

theorem crcBit_lt {r : Nat} (h : r < 4294967296) : crcBit r < 4294967296 := by
  unfold crcBit
  split
  · exact Nat.xor_lt_two_pow (n := 32) (by omega) (by omega)
  · omega
theorem crcBits_lt : ∀ (n : Nat) {r : Nat}, r < 4294967296 → crcBits n r < 4294967296
  | 0, r, h => h
  | n + 1, r, h => crcBits_lt n (crcBit_lt h)
theorem crcL_lt : ∀ (l : List UInt8) {r : Nat}, r < 4294967296 → crcL l r < 4294967296
  | [], r, h => h
  | b :: l, r, h => crcL_lt l (crcBits_lt 8 (Nat.xor_lt_two_pow (n := 32) h (by have := byte_lt b; omega)))
theorem crcB_lt (l : List UInt8) : crcB l < 4294967296 := Nat.xor_lt_two_pow (n := 32) (crcL_lt l (by omega)) (by omega)

theorem b2s_map (l : List UInt8) : allSome ((l.map B).map asB) = some l := by
  induction l with
  | nil => rfl
  | cons b l ih =>
    simp only [List.map_cons, allSome, ih, B, asB, Int.toNat_natCast, UInt8.ofNat_toNat]

theorem b2sE_map (ρ : Look) (l : List UInt8) : b2sE ρ (.dat (.sl (l.map B))) = some (.dat (.str l), []) := by
  have h : (l.map B).all (fun d => d.width == 1) = true := by simp [Dat.width]
  simp only [b2sE, elemsOf, h, if_true, b2s_map]
attribute [simp] b2sE_map

theorem width_B (l : List UInt8) : ((l.map B).all fun d => d.width == 1) = true := by simp [Dat.width]

end Go.Am
