/- Parts of the proofs of the statement, joined and made short: AmMath. -/
import Derived.Test.YtgaeajfoiigbkaaGreatDoorP9
set_option linter.unusedVariables false
set_option linter.unusedSimpArgs false
set_option linter.unusedSectionVars false
namespace Go.Am
variable [Glob]
@[simp] theorem get_mid {α : Type} (l r : List α) (a : α) : (l ++ a :: r)[l.length]? = some a:=by simp
@[simp] theorem get_mid_map {α β : Type} (f : β → α) (l : List β) (r : List α) (a : α) : (l.map f ++ a :: r)[l.length]? = some a:=by
 rw [List.getElem?_append_right (by simp)]
 simp
@[simp] theorem lt_mid (a b : Nat) : ((a : Int) < a + (b + 1)) = True:=by simp; omega
@[simp] theorem lt_mid1 (a : Nat) : ((a : Int) < a + 1) = True:=by simp; omega
@[simp] theorem nn_succ (a : Nat) : (0 ≤ (a : Int) + 1) = True:=by simp; omega
@[simp] theorem toNat_succ (a : Nat) : ((a : Int) + 1).toNat = a + 1:=by omega
theorem get_at {α : Type} (l : List α) {i : Nat} (h : i < l.length) : ∃ a,l[i]? = some a:=⟨l[i],by simp [h]⟩
attribute [simp] Int.natCast_inj
@[simp] theorem neg_cast (i : Nat) : ((i : Int) < 0) = False:=by simp
def Ix (n : Nat) : Prop:=n < 100000000000000
@[simp] theorem wrap_succ {n : Nat} (h : Ix n) : IntKind.wrap .i64 ((n : Int) + 1) = (n : Int) + 1:=by
 unfold Ix at h
 exact wrap_i64 (by omega) (by omega)
@[simp] def B (b : UInt8) : Dat:=.int .u8 (b.toNat : Int)
theorem byte_lt (b : UInt8) : b.toNat < 256:=by have:=b.toBitVec.isLt; simpa using this
def num4 (l : List UInt8) : Nat:=(l.getD 0 0).toNat + 256 * (l.getD 1 0).toNat + 65536 * (l.getD 2 0).toNat + 16777216 * (l.getD 3 0).toNat
def uintB (n : Nat) : List UInt8:=if 128 ≤ n then UInt8.ofNat (n % 128 + 128) :: uintB (n / 128) else [UInt8.ofNat n]
 termination_by n
def crcBit (r : Nat) : Nat:=if r % 2 = 1 then (r / 2) ^^^ 3988292384 else r / 2
def crcBits : Nat → Nat → Nat
 | 0,r => r
 | n + 1,r => crcBits n (crcBit r)
def crcL : List UInt8 → Nat → Nat
 | [],r => r
 | b :: l,r => crcL l (crcBits 8 (r ^^^ b.toNat))
def crcB (l : List UInt8) : Nat:=crcL l 4294967295 ^^^ 4294967295
def sumB (c : Nat) : List UInt8:=[UInt8.ofNat c,UInt8.ofNat (c / 256),UInt8.ofNat (c / 65536),UInt8.ofNat (c / 16777216)]
def sealB (p : List UInt8) : List UInt8:=(uintB p.length ++ p) ++ sumB (crcB (uintB p.length ++ p))
theorem b2s_map (l : List UInt8) : allSome ((l.map B).map asB) = some l:=by
 induction l with
 | nil => rfl
 | cons b l ih =>
  simp only [List.map_cons,allSome,ih,B,asB,Int.toNat_natCast,UInt8.ofNat_toNat]
theorem b2sE_map (ρ : Look) (l : List UInt8) : b2sE ρ (.dat (.sl (l.map B))) = some (.dat (.str l),[]):=by
 have h : (l.map B).all (fun d => d.width == 1) = true:=by simp [Dat.width]
 simp only [b2sE,elemsOf,h,if_true,b2s_map]
attribute [simp] b2sE_map
end Go.Am
