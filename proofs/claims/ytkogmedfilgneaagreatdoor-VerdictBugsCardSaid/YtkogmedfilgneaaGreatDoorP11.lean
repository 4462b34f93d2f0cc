/- Parts of the proofs of the statement, joined: AmMath VW1 VW2 VW3 VW4 AmRead AmLaw. -/
import Derived.Test.YtkogmedfilgneaaGreatDoorP10
import Derived.ChangeArms
import Derived.WideShapes
import Derived.WideKeyArgs
import Derived.JoinedOf
import Derived.OpenShut

/- Plain definitions and facts: bytes, numbers in bytes, frames. -/
set_option linter.unusedVariables false
namespace Go.Am
set_option linter.unusedSectionVars false
variable [Glob]

theorem ite_t {α : Type} {c : Prop} [Decidable c] {a b : α} (h : c) : ite c a b = a := if_pos h
theorem ite_f {α : Type} {c : Prop} [Decidable c] {a b : α} (h : ¬ c) : ite c a b = b := if_neg h
theorem dec_t {c : Prop} [Decidable c] (h : c) : decide c = true := by simp [h]
theorem dec_f {c : Prop} [Decidable c] (h : ¬ c) : decide c = false := by simp [h]

@[simp] theorem get_mid {α : Type} (l r : List α) (a : α) : (l ++ a :: r)[l.length]? = some a := by simp
@[simp] theorem get_mid_map {α β : Type} (f : β → α) (l : List β) (r : List α) (a : α) : (l.map f ++ a :: r)[l.length]? = some a := by
  rw [List.getElem?_append_right (by simp)]
  simp

@[simp] theorem lt_mid (a b : Nat) : ((a : Int) < a + (b + 1)) = True := by simp; omega
@[simp] theorem lt_mid1 (a : Nat) : ((a : Int) < a + 1) = True := by simp; omega
@[simp] theorem nn_succ (a : Nat) : (0 ≤ (a : Int) + 1) = True := by simp; omega
@[simp] theorem toNat_succ (a : Nat) : ((a : Int) + 1).toNat = a + 1 := by omega
theorem get_at {α : Type} (l : List α) {i : Nat} (h : i < l.length) : ∃ a, l[i]? = some a := ⟨l[i], by simp [h]⟩
theorem take_map {α β : Type} (f : α → β) (n : Nat) (l : List α) : (l.map f).take n = (l.take n).map f := List.map_take.symm
theorem drop_map {α β : Type} (f : α → β) (n : Nat) (l : List α) : (l.map f).drop n = (l.drop n).map f := List.map_drop.symm
theorem drop12 {α : Type} (a0 a1 a2 a3 a4 a5 a6 a7 a8 a9 a10 a11 : α) (T : List α) (c : Nat) : List.drop (12 + c) (a0 :: a1 :: a2 :: a3 :: a4 :: a5 :: a6 :: a7 :: a8 :: a9 :: a10 :: a11 :: T) = T.drop c := by rw [Nat.add_comm]; rfl
theorem take12 {α : Type} (a0 a1 a2 a3 a4 a5 a6 a7 a8 a9 a10 a11 : α) (T : List α) (c : Nat) : List.take (12 + c) (a0 :: a1 :: a2 :: a3 :: a4 :: a5 :: a6 :: a7 :: a8 :: a9 :: a10 :: a11 :: T) = a0 :: a1 :: a2 :: a3 :: a4 :: a5 :: a6 :: a7 :: a8 :: a9 :: a10 :: a11 :: T.take c := by rw [Nat.add_comm]; rfl
theorem drop_none {α : Type} {l : List α} {n : Nat} (h : l.length ≤ n) : l.drop n = [] := List.drop_of_length_le h
attribute [simp] Int.natCast_inj
theorem get_at' {α : Type} (l : List α) {i : Nat} (h : i < l.length) : ∃ a, l[i]? = some a ∧ ∀ h : i < l.length, l[i] = a := ⟨l[i], by simp [h], fun _ => rfl⟩
@[simp] theorem neg_cast (i : Nat) : ((i : Int) < 0) = False := by simp
/-- a position and the next one -/
def Ix (n : Nat) : Prop := n < 100000000000000
@[simp] theorem wrap_succ {n : Nat} (h : Ix n) : IntKind.wrap .i64 ((n : Int) + 1) = (n : Int) + 1 := by
  unfold Ix at h
  exact wrap_i64 (by omega) (by omega)

theorem bv_xor {a b : Nat} (ha : a < 4294967296) (hb : b < 4294967296) : (((BitVec.ofNat 32 a ^^^ BitVec.ofNat 32 b).toNat : Nat) : Int) % 4294967296 = ((a ^^^ b : Nat) : Int) := by
  have h : (BitVec.ofNat 32 a ^^^ BitVec.ofNat 32 b).toNat = a ^^^ b := by
    rw [BitVec.toNat_xor, BitVec.toNat_ofNat, BitVec.toNat_ofNat, Nat.mod_eq_of_lt ha, Nat.mod_eq_of_lt hb]
  have := Nat.xor_lt_two_pow (n := 32) ha hb
  omega
theorem bv_or {a b : Nat} (ha : a < 4294967296) (hb : b < 4294967296) : (((BitVec.ofNat 32 a ||| BitVec.ofNat 32 b).toNat : Nat) : Int) % 4294967296 = ((a ||| b : Nat) : Int) := by
  have h : (BitVec.ofNat 32 a ||| BitVec.ofNat 32 b).toNat = a ||| b := by
    rw [BitVec.toNat_or, BitVec.toNat_ofNat, BitVec.toNat_ofNat, Nat.mod_eq_of_lt ha, Nat.mod_eq_of_lt hb]
  have := Nat.or_lt_two_pow (n := 32) ha hb
  omega
theorem bv_and {a b : Nat} (ha : a < 4294967296) (hb : b < 4294967296) : (((BitVec.ofNat 32 a &&& BitVec.ofNat 32 b).toNat : Nat) : Int) % 4294967296 = ((a &&& b : Nat) : Int) := by
  have h : (BitVec.ofNat 32 a &&& BitVec.ofNat 32 b).toNat = a &&& b := by
    rw [BitVec.toNat_and, BitVec.toNat_ofNat, BitVec.toNat_ofNat, Nat.mod_eq_of_lt ha, Nat.mod_eq_of_lt hb]
  have := Nat.and_lt_two_pow (n := 32) a hb
  omega

/-- a byte as a datum -/
@[simp] def B (b : UInt8) : Dat := .int .u8 (b.toNat : Int)


theorem byte_lt (b : UInt8) : b.toNat < 256 := by have := b.toBitVec.isLt; simpa using this

def num4 (l : List UInt8) : Nat := (l.getD 0 0).toNat + 256 * (l.getD 1 0).toNat + 65536 * (l.getD 2 0).toNat + 16777216 * (l.getD 3 0).toNat

def uintB (n : Nat) : List UInt8 := if 128 ≤ n then UInt8.ofNat (n % 128 + 128) :: uintB (n / 128) else [UInt8.ofNat n]
  termination_by n

def crcBit (r : Nat) : Nat := if r % 2 = 1 then (r / 2) ^^^ 3988292384 else r / 2
def crcBits : Nat → Nat → Nat
  | 0, r => r
  | n + 1, r => crcBits n (crcBit r)
def crcL : List UInt8 → Nat → Nat
  | [], r => r
  | b :: l, r => crcL l (crcBits 8 (r ^^^ b.toNat))
def crcB (l : List UInt8) : Nat := crcL l 4294967295 ^^^ 4294967295

def sumB (c : Nat) : List UInt8 := [UInt8.ofNat c, UInt8.ofNat (c / 256), UInt8.ofNat (c / 65536), UInt8.ofNat (c / 16777216)]

def sealB (p : List UInt8) : List UInt8 := (uintB p.length ++ p) ++ sumB (crcB (uintB p.length ++ p))

theorem crcBit_lt {r : Nat} (h : r < 4294967296) : crcBit r < 4294967296 := by
  unfold crcBit
  split
  · exact Nat.xor_lt_two_pow (n := 32) (by omega) (by omega)
  · omega
theorem crcBits_lt : ∀ (n : Nat) {r : Nat}, r < 4294967296 → crcBits n r < 4294967296
  | 0, r, h => h
  | n + 1, r, h => crcBits_lt n (crcBit_lt h)
theorem crcL_lt : ∀ (l : List UInt8) {r : Nat}, r < 4294967296 → crcL l r < 4294967296
  | [], r, h => h
  | b :: l, r, h => crcL_lt l (crcBits_lt 8 (Nat.xor_lt_two_pow (n := 32) h (by have := byte_lt b; omega)))
theorem crcB_lt (l : List UInt8) : crcB l < 4294967296 := Nat.xor_lt_two_pow (n := 32) (crcL_lt l (by omega)) (by omega)

theorem b2s_map (l : List UInt8) : allSome ((l.map B).map asB) = some l := by
  induction l with
  | nil => rfl
  | cons b l ih =>
    simp only [List.map_cons, allSome, ih, B, asB, Int.toNat_natCast, UInt8.ofNat_toNat]

theorem b2sE_map (ρ : Look) (l : List UInt8) : b2sE ρ (.dat (.sl (l.map B))) = some (.dat (.str l), []) := by
  have h : (l.map B).all (fun d => d.width == 1) = true := by simp [Dat.width]
  simp only [b2sE, elemsOf, h, if_true, b2s_map]
attribute [simp] b2sE_map

theorem width_B (l : List UInt8) : ((l.map B).all fun d => d.width == 1) = true := by simp [Dat.width]

end Go.Am

/- The verdict's own functions: what they return. -/
set_option linter.unusedVariables false
set_option linter.unusedSimpArgs false
set_option maxRecDepth 10000
namespace Go.Am
open Go.Proofs

noncomputable abbrev KV : Orc := callT tblV

abbrev Nn (n : Int) : Dat := .int .i64 n
abbrev Rr (p : Int × Int) : Dat := .agg [.int .i64 p.1, .int .i64 p.2]

structure Vd where
  fa : List Int
  de : List Int
  lo : List Int
  cu : List Int
  ra : List (Int × Int)
  deriving DecidableEq

def Vd.cells (v : Vd) : List Dat := [.sl (v.fa.map Nn), .sl (v.de.map Nn), .sl (v.lo.map Nn), .sl (v.cu.map Nn), .sl (v.ra.map Rr)]
abbrev Vd.dat (v : Vd) : Dat := .agg v.cells

theorem small_run (v : Vd) : KV 6 [.dat v.dat] [] = some (.dat (.bool (decide ((v.fa.length : Int) ≤ 50) && (decide ((v.de.length : Int) ≤ 50) && (decide ((v.lo.length : Int) ≤ 50) && (decide ((v.cu.length : Int) ≤ 50) && decide ((v.ra.length : Int) ≤ 50)))))), []) := by
  refine callT_ev (fn := fn6) rfl rfl ?_
  by_cases h1 : (v.fa.length : Int) ≤ 50 <;> by_cases h2 : (v.de.length : Int) ≤ 50 <;> by_cases h3 : (v.lo.length : Int) ≤ 50 <;> by_cases h4 : (v.cu.length : Int) ≤ 50 <;> simp [runFun_eq, Vd.cells, h1, h2, h3, h4]

def nameB (k : Int) : List UInt8 := if k = 1 then [97, 115, 115, 101, 114, 116] else if k = 2 then [100, 101, 97, 100, 108, 111, 99, 107] else if k = 3 then [108, 111, 115, 116] else if k = 4 then [114, 97, 99, 101] else []

theorem name10 (k : Int) : KV 10 [.dat (.int .i64 k)] [] = some (.dat (.str (nameB k)), []) := by
  refine callT_ev (fn := fn10) rfl rfl ?_
  unfold nameB
  by_cases h3 : k = 3
  · subst h3; simp [runFun_eq]
  · by_cases h4 : k = 4
    · subst h4; simp [runFun_eq]
    · by_cases h1 : k = 1
      · subst h1; simp [runFun_eq]
      · by_cases h2 : k = 2
        · subst h2; simp [runFun_eq]
        · simp [runFun_eq, h1, h2, h3, h4]

theorem name11 (k : Int) : KV 11 [.dat (.int .i64 k)] [] = some (.dat (.str (nameB k)), []) := by
  refine callT_ev (fn := fn11) rfl rfl ?_
  unfold nameB
  by_cases h1 : k = 1
  · subst h1; simp [runFun_eq]
  · by_cases h2 : k = 2
    · subst h2; simp [runFun_eq]
    · by_cases h3 : k = 3
      · subst h3; simp [runFun_eq]
      · by_cases h4 : k = 4
        · subst h4; simp [runFun_eq]
        · simp [runFun_eq, h1, h2, h3, h4]

theorem ints_loop29 : ∀ (r q pre pre' : List Int) (s : St), r.length = q.length → pre.length = pre'.length → pre.length + r.length < 100000000000 →
    hd [0, 1, 12, 13] [] s = some ⟨[(0, .dat (.sl ((pre ++ r).map Nn))), (1, .dat (.sl ((pre' ++ q).map Nn))), (12, .dat (.int .i64 (pre ++ r).length)), (13, .dat (.int .i64 pre.length))], []⟩ →
    Ev (loopLim (exec KV l29_0) s) fun p => if r = q then p.1 = .exit 0 ∧ hd [] [] p.2 = some ⟨[], []⟩ else p.1 = .ret ∧ hd [4] [] p.2 = some ⟨[(4, .dat (.bool false))], []⟩
  | [], [], pre, pre', s, _, hp, hl, hs => by
    apply ev_loop
    simp [hs]
  | x :: r, y :: q, pre, pre', s, hrq, hp, hl, hs => by
    simp only [List.length_cons, Nat.add_right_cancel_iff] at hrq
    have ix : Ix pre.length := by unfold Ix; omega
    apply ev_loop
    by_cases h : x = y
    · subst h
      generalize hQ : (fun p : AEx × St => if x :: r = x :: q then p.1 = .exit 0 ∧ hd [] [] p.2 = some ⟨[], []⟩ else p.1 = .ret ∧ hd [4] [] p.2 = some ⟨[(4, .dat (.bool false))], []⟩) = Q
      have hp' : pre'.length = pre.length := hp.symm
      have g1 : ((pre' ++ x :: q).map Nn)[pre.length]? = some (Nn x) := by rw [← hp']; simp
      simp at g1
      simp [hs, ix, hp', g1]
      refine Ev.mono (ints_loop29 r q (pre ++ [x]) (pre' ++ [x]) _ hrq (by simp [hp]) (by simp; simp at hl; omega) (by simp [hs, ix, hp', g1])) ?_
      subst hQ
      intro p hq
      simpa using hq
    · have hp' : pre'.length = pre.length := hp.symm
      have g1 : ((pre' ++ y :: q).map Nn)[pre.length]? = some (Nn y) := by rw [← hp']; simp
      simp at g1
      simp [hs, ix, hp', g1, h]

theorem equal29 (a b : List Int) (ha : a.length < 10000000000) (hb : b.length < 10000000000) : KV 29 [.dat (.sl (a.map Nn)), .dat (.sl (b.map Nn))] [] = some (.dat (.bool (decide (a = b))), []) := by
  refine callT_ev (fn := fn29) rfl rfl ?_
  by_cases h : a.length = b.length
  · have h' : (a.length : Int) = b.length := by omega
    simp [runFun_eq, h']
    simp only [ev_bnd_iff]
    refine (ints_loop29 a b [] [] _ h rfl (by simp; omega) (by simp [h'])).mono ?_
    rintro ⟨x, s⟩ hq
    by_cases e : a = b
    · rw [if_pos e] at hq
      obtain ⟨rfl, hs⟩ := hq
      simp [hs, e]
    · rw [if_neg e] at hq
      obtain ⟨rfl, hs⟩ := hq
      simp [endK_hd (res := [.t 4]) (live := [4]) (by simp [AR.slot]) hs, e]
  · have h' : ¬ (a.length : Int) = b.length := by omega
    have e : ¬ a = b := fun x => h (by rw [x])
    simp [runFun_eq, h', e]

theorem ints_loop19 : ∀ (r q pre pre' : List Int) (s : St), r.length = q.length → pre.length = pre'.length → pre.length + r.length < 100000000000 →
    hd [0, 1, 5] [] s = some ⟨[(0, .dat (.sl ((pre ++ r).map Nn))), (1, .dat (.sl ((pre' ++ q).map Nn))), (5, .dat (.int .i64 pre.length))], []⟩ →
    Ev (loopLim (exec KV l19_0) s) fun p => if r = q then p.1 = .exit 0 ∧ hd [] [] p.2 = some ⟨[], []⟩ else p.1 = .ret ∧ hd [4] [] p.2 = some ⟨[(4, .dat (.bool false))], []⟩
  | [], [], pre, pre', s, _, hp, hl, hs => by
    apply ev_loop
    simp [hs]
  | x :: r, y :: q, pre, pre', s, hrq, hp, hl, hs => by
    simp only [List.length_cons, Nat.add_right_cancel_iff] at hrq
    have ix : Ix pre.length := by unfold Ix; omega
    apply ev_loop
    have hp' : pre'.length = pre.length := hp.symm
    by_cases h : x = y
    · subst h
      generalize hQ : (fun p : AEx × St => if x :: r = x :: q then p.1 = .exit 0 ∧ hd [] [] p.2 = some ⟨[], []⟩ else p.1 = .ret ∧ hd [4] [] p.2 = some ⟨[(4, .dat (.bool false))], []⟩) = Q
      have g1 : ((pre' ++ x :: q).map Nn)[pre.length]? = some (Nn x) := by rw [← hp']; simp
      simp at g1
      simp [hs, ix, hp', g1]
      refine Ev.mono (ints_loop19 r q (pre ++ [x]) (pre' ++ [x]) _ hrq (by simp [hp]) (by simp; simp at hl; omega) (by simp [hs, ix, hp', g1])) ?_
      subst hQ
      intro p hq
      simpa using hq
    · have g1 : ((pre' ++ y :: q).map Nn)[pre.length]? = some (Nn y) := by rw [← hp']; simp
      simp at g1
      simp [hs, ix, hp', g1, h]

theorem equal19 (a b : List Int) (ha : a.length < 10000000000) (hb : b.length < 10000000000) : KV 19 [.dat (.sl (a.map Nn)), .dat (.sl (b.map Nn))] [] = some (.dat (.bool (decide (a = b))), []) := by
  refine callT_ev (fn := fn19) rfl rfl ?_
  by_cases h : a.length = b.length
  · have h' : (a.length : Int) = b.length := by omega
    simp [runFun_eq, h']
    simp only [ev_bnd_iff]
    refine (ints_loop19 a b [] [] _ h rfl (by simp; omega) (by simp [h'])).mono ?_
    rintro ⟨x, s⟩ hq
    by_cases e : a = b
    · rw [if_pos e] at hq
      obtain ⟨rfl, hs⟩ := hq
      simp [hs, e]
    · rw [if_neg e] at hq
      obtain ⟨rfl, hs⟩ := hq
      simp [endK_hd (res := [.t 4]) (live := [4]) (by simp [AR.slot]) hs, e]
  · have h' : ¬ (a.length : Int) = b.length := by omega
    have e : ¬ a = b := fun x => h (by rw [x])
    simp [runFun_eq, h', e]

theorem races_loop30 : ∀ (r q pre pre' : List (Int × Int)) (s : St), r.length = q.length → pre.length = pre'.length → pre.length + r.length < 100000000000 →
    hd [0, 1, 12, 13] [] s = some ⟨[(0, .dat (.sl ((pre ++ r).map Rr))), (1, .dat (.sl ((pre' ++ q).map Rr))), (12, .dat (.int .i64 (pre ++ r).length)), (13, .dat (.int .i64 pre.length))], []⟩ →
    Ev (loopLim (exec KV l30_0) s) fun p => if r = q then p.1 = .exit 0 ∧ hd [] [] p.2 = some ⟨[], []⟩ else p.1 = .ret ∧ hd [4] [] p.2 = some ⟨[(4, .dat (.bool false))], []⟩
  | [], [], pre, pre', s, _, hp, hl, hs => by
    apply ev_loop
    simp [hs]
  | (x, u) :: r, (y, v) :: q, pre, pre', s, hrq, hp, hl, hs => by
    simp only [List.length_cons, Nat.add_right_cancel_iff] at hrq
    have ix : Ix pre.length := by unfold Ix; omega
    apply ev_loop
    have hp' : pre'.length = pre.length := hp.symm
    by_cases h : x = y
    · subst h
      by_cases h2 : u = v
      · subst h2
        generalize hQ : (fun p : AEx × St => if (x, u) :: r = (x, u) :: q then p.1 = .exit 0 ∧ hd [] [] p.2 = some ⟨[], []⟩ else p.1 = .ret ∧ hd [4] [] p.2 = some ⟨[(4, .dat (.bool false))], []⟩) = Q
        have g1 : ((pre' ++ (x, u) :: q).map Rr)[pre.length]? = some (Rr (x, u)) := by rw [← hp']; simp
        simp at g1
        simp [hs, ix, hp', g1]
        refine Ev.mono (races_loop30 r q (pre ++ [(x, u)]) (pre' ++ [(x, u)]) _ hrq (by simp [hp]) (by simp; simp at hl; omega) (by simp [hs, ix, hp', g1])) ?_
        subst hQ
        intro p hq
        simpa using hq
      · have g1 : ((pre' ++ (x, v) :: q).map Rr)[pre.length]? = some (Rr (x, v)) := by rw [← hp']; simp
        simp at g1
        simp [hs, ix, hp', g1, h2]
    · have g1 : ((pre' ++ (y, v) :: q).map Rr)[pre.length]? = some (Rr (y, v)) := by rw [← hp']; simp
      simp at g1
      simp [hs, ix, hp', g1, h]

theorem equal30 (a b : List (Int × Int)) (ha : a.length < 10000000000) (hb : b.length < 10000000000) : KV 30 [.dat (.sl (a.map Rr)), .dat (.sl (b.map Rr))] [] = some (.dat (.bool (decide (a = b))), []) := by
  refine callT_ev (fn := fn30) rfl rfl ?_
  by_cases h : a.length = b.length
  · have h' : (a.length : Int) = b.length := by omega
    simp [runFun_eq, h']
    simp only [ev_bnd_iff]
    refine (races_loop30 a b [] [] _ h rfl (by simp; omega) (by simp [h'])).mono ?_
    rintro ⟨x, s⟩ hq
    by_cases e : a = b
    · rw [if_pos e] at hq
      obtain ⟨rfl, hs⟩ := hq
      simp [hs, e]
    · rw [if_neg e] at hq
      obtain ⟨rfl, hs⟩ := hq
      simp [endK_hd (res := [.t 4]) (live := [4]) (by simp [AR.slot]) hs, e]
  · have h' : ¬ (a.length : Int) = b.length := by omega
    have e : ¬ a = b := fun x => h (by rw [x])
    simp [runFun_eq, h', e]

/-- the kinds of bugs of a verdict -/
def bugs (v : Vd) : List Int := (if v.fa = [] then [] else [1]) ++ ((if v.de = [] then [] else [2]) ++ ((if v.lo = [] then [] else [3]) ++ (if v.ra = [] then [] else [4])))

theorem bugs9 (v : Vd) : KV 9 [.dat v.dat] [] = some (.dat (.sl ((bugs v).map Nn)), []) := by
  refine callT_ev (fn := fn9) rfl rfl ?_
  obtain ⟨fa, de, lo, cu, ra⟩ := v
  cases fa <;> cases de <;> cases lo <;> cases ra <;> simp [runFun_eq, Vd.cells, bugs]
end Go.Am

/- The verdict's own functions, second part. -/
set_option linter.unusedVariables false
set_option linter.unusedSimpArgs false
set_option maxRecDepth 10000
namespace Go.Am
open Go.Proofs

def has (v : Vd) (k : Int) : Bool := if k = 1 then decide (v.fa ≠ []) else if k = 3 then decide (v.lo ≠ []) else if k = 4 then decide (v.ra ≠ []) else decide (v.de ≠ [])

abbrev bx (v : Vd) : TObj := .plain (.box [.dat (.sl (v.fa.map Nn)), .dat (.sl (v.de.map Nn)), .dat (.sl (v.lo.map Nn)), .dat (.sl (v.cu.map Nn)), .dat (.sl (v.ra.map Rr))])

theorem has28 (v : Vd) (k : Int) : KV 28 [.dat (.int .i64 k), .ref ((0, 0), 0, 0) 0] [bx v] = some (.dat (.bool (has v k)), [bx v]) := by
  refine callT_ev (fn := fn28) rfl rfl ?_
  unfold has
  by_cases h1 : k = 1
  · subst h1; cases h : v.fa <;> simp [runFun_eq, h]
  · by_cases h3 : k = 3
    · subst h3; cases h : v.lo <;> simp [runFun_eq, h]
    · by_cases h4 : k = 4
      · subst h4; cases h : v.ra <;> simp [runFun_eq, h]
      · cases h : v.de <;> simp [runFun_eq, h1, h3, h4, h]

theorem loop27 (v : Vd) : ∀ (rest pre acc : List Int) (n : Nat) (s : St), pre.length + rest.length < 1000 → acc.length ≤ pre.length →
    hd [1, 5, 8, 9, 10] [1, 5, 8] s = some ⟨[(1, .fn 28 [.ref ((0, 0), 0, 0) 0]), (5, .rsl ((6, 0), 0, 0) n 1 0 acc.length), (8, .dat (.sl ((pre ++ rest).map Nn))), (9, .dat (.int .i64 (pre ++ rest).length)), (10, .dat (.int .i64 pre.length))], [((0, 0), bx v), ((6, 0), .plain (.arr 1 n false (acc.map Nn)))]⟩ →
    Ev (loopLim (exec KV l27_0) s) fun r => r.1 = .exit 0 ∧ ∃ n', hd [5] [] r.2 = some ⟨[(5, .rsl ((6, 0), 0, 0) n' 1 0 (acc ++ rest.filter (has v)).length)], [((0, 0), bx v), ((6, 0), .plain (.arr 1 n' false ((acc ++ rest.filter (has v)).map Nn)))]⟩
  | [], pre, acc, n, s, hl, ha, hs => by
    apply ev_loop
    simp [hs]
  | x :: rest, pre, acc, n, s, hl, ha, hs => by
    have ix : Ix pre.length := by unfold Ix; simp at hl; omega
    have h28 := has28 v x
    have r1 : (acc.length + 1) * 9 ≤ 1099511627776 := by simp at hl; omega
    apply ev_loop
    cases hx : has v x with
    | false =>
      simp [hx] at h28
      simp [hs, ix, h28, hx, YID]
      refine Ev.mono (loop27 v rest (pre ++ [x]) acc n _ (by simp; simp at hl; omega) (by simp; omega) (by simp [hs, ix])) ?_
      intro p hq
      simpa [hx] using hq
    | true =>
      simp [hx] at h28
      simp [hs, ix, h28, hx, r1, YID]
      refine Ev.mono (loop27 v rest (pre ++ [x]) (acc ++ [x]) (n + 1) _ (by simp; simp at hl; omega) (by simp; omega) (by simp [hs, ix])) ?_
      intro p hq
      simpa [hx] using hq

theorem chosen27 (v : Vd) (l : List Int) (hl : l.length < 1000) : KV 27 [.dat (.sl (l.map Nn)), .fn 28 [.ref ((0, 0), 0, 0) 0]] [bx v] = some (.dat (.sl ((l.filter (has v)).map Nn)), [bx v]) := by
  refine callT_ev (fn := fn27) rfl rfl ?_
  simp [runFun_eq]
  simp only [ev_bnd_iff]
  refine (loop27 v l [] [] 0 _ (by simpa using hl) (by simp) (by simp)).mono ?_
  rintro ⟨x, s⟩ ⟨rfl, n', hs⟩
  simp at hs
  simp [hs]

theorem bugs8 (v : Vd) : KV 8 [.dat v.dat] [] = some (.dat (.sl ((bugs v).map Nn)), []) := by
  refine callT_ev (fn := fn8) rfl rfl ?_
  have h := chosen27 v [1, 2, 3, 4] (by simp)
  have e : [1, 2, 3, 4].filter (has v) = bugs v := by
    unfold bugs
    cases h1 : v.fa <;> cases h2 : v.de <;> cases h3 : v.lo <;> cases h4 : v.ra <;> simp [List.filter, has, h1, h2, h3, h4]
  rw [e] at h
  simp at h
  simp [runFun_eq, Vd.cells, h]

theorem equal12 (a b : Vd) (h : ∀ l ∈ [a.fa, a.de, a.lo, a.cu, b.fa, b.de, b.lo, b.cu], l.length < 10000000000) (h' : a.ra.length < 10000000000) (h'' : b.ra.length < 10000000000) : KV 12 [.dat a.dat, .dat b.dat] [] = some (.dat (.bool (decide (a = b))), []) := by
  refine callT_ev (fn := fn12) rfl rfl ?_
  obtain ⟨f, d, l, c, r⟩ := a
  obtain ⟨f', d', l', c', r'⟩ := b
  simp only [List.mem_cons, List.not_mem_nil, or_false, forall_eq_or_imp, forall_eq] at h
  obtain ⟨h1, h2, h3, h4, h5, h6, h7, h8⟩ := h
  have e1 := equal29 f f' h1 h5
  have e2 := equal29 d d' h2 h6
  have e3 := equal29 l l' h3 h7
  have e4 := equal29 c c' h4 h8
  have e5 := equal30 r r' h' h''
  by_cases g1 : f = f'
  · by_cases g2 : d = d'
    · by_cases g3 : l = l'
      · by_cases g4 : c = c'
        · by_cases g5 : r = r'
          · subst g1 g2 g3 g4 g5; simp [runFun_eq, Vd.cells, e1, e2, e3, e4, e5]
          · subst g1 g2 g3 g4; simp [g5] at e5; simp [runFun_eq, Vd.cells, e1, e2, e3, e4, e5, g5]
        · subst g1 g2 g3; simp [g4] at e4; simp [runFun_eq, Vd.cells, e1, e2, e3, e4, g4]
      · subst g1 g2; simp [g3] at e3; simp [runFun_eq, Vd.cells, e1, e2, e3, g3]
    · subst g1; simp [g2] at e2; simp [runFun_eq, Vd.cells, e1, e2, g2]
  · simp [g1] at e1; simp [runFun_eq, Vd.cells, e1, g1]
end Go.Am

/- VerdictBugs: what the law itself returns. -/
set_option linter.unusedVariables false
set_option linter.unusedSimpArgs false
set_option maxRecDepth 10000
namespace Go.Am
open Go.Proofs

theorem loop13 (a b : Vd) : ∀ (r q pre pre' : List (Int × Int)) (s : St), a.ra = pre ++ r → b.ra = pre' ++ q → r.length = q.length → pre.length = pre'.length → pre.length + r.length < 100000000000 →
    hd [2, 3, 5] [] s = some ⟨[(2, .ref ((3, 0), 0, 0) 0), (3, .ref ((4, 0), 0, 0) 0), (5, .dat (.int .i64 pre.length))], [((3, 0), bx a), ((4, 0), bx b)]⟩ →
    Ev (loopLim (exec KV l13_0) s) fun p => if r = q then p.1 = .exit 0 ∧ hd [] [] p.2 = some ⟨[], [((3, 0), bx a), ((4, 0), bx b)]⟩ else p.1 = .ret ∧ hd [4] [] p.2 = some ⟨[(4, .dat (.bool false))], [((3, 0), bx a), ((4, 0), bx b)]⟩
  | [], [], pre, pre', s, ea, eb, _, hp, hl, hs => by
    apply ev_loop
    simp [hs, ea]
  | (x, u) :: r, (y, v) :: q, pre, pre', s, ea, eb, hrq, hp, hl, hs => by
    simp only [List.length_cons, Nat.add_right_cancel_iff] at hrq
    have ix : Ix pre.length := by unfold Ix; omega
    apply ev_loop
    have hp' : pre'.length = pre.length := hp.symm
    have g1 : ((pre' ++ (y, v) :: q).map Rr)[pre.length]? = some (Rr (y, v)) := by rw [← hp']; simp
    simp at g1
    by_cases h : x = y ∧ u = v
    · obtain ⟨rfl, rfl⟩ := h
      generalize hQ : (fun p : AEx × St => if (x, u) :: r = (x, u) :: q then p.1 = .exit 0 ∧ hd [] [] p.2 = some ⟨[], [((3, 0), bx a), ((4, 0), bx b)]⟩ else p.1 = .ret ∧ hd [4] [] p.2 = some ⟨[(4, .dat (.bool false))], [((3, 0), bx a), ((4, 0), bx b)]⟩) = Q
      simp [hs, ix, hp', g1, ea, eb]
      refine Ev.mono (loop13 a b r q (pre ++ [(x, u)]) (pre' ++ [(x, u)]) _ (by simp [ea]) (by simp [eb]) hrq (by simp [hp]) (by simp; simp at hl; omega) (by simp [hs, ix, ea, eb])) ?_
      subst hQ
      intro p hq
      simpa using hq
    · by_cases h1 : x = y
      · have h2 : ¬ u = v := fun e => h ⟨h1, e⟩
        subst h1
        simp [hs, ix, hp', g1, ea, eb, h2]
      · simp [hs, ix, hp', g1, ea, eb, h1]

theorem equal13 (a b : Vd) (h : ∀ l ∈ [a.fa, a.de, a.lo, a.cu, b.fa, b.de, b.lo, b.cu], l.length < 10000000000) (h' : a.ra.length < 10000000000) (h'' : b.ra.length < 10000000000) : KV 13 [.dat a.dat, .dat b.dat] [] = some (.dat (.bool (decide (a = b))), []) := by
  refine callT_ev (fn := fn13) rfl rfl ?_
  simp only [List.mem_cons, List.not_mem_nil, or_false, forall_eq_or_imp, forall_eq] at h
  obtain ⟨h1, h2, h3, h4, h5, h6, h7, h8⟩ := h
  have e1 := equal19 a.fa b.fa h1 h5
  have e2 := equal19 a.de b.de h2 h6
  have e3 := equal19 a.lo b.lo h3 h7
  have e4 := equal19 a.cu b.cu h4 h8
  have eqv : a = b ↔ a.fa = b.fa ∧ a.de = b.de ∧ a.lo = b.lo ∧ a.cu = b.cu ∧ a.ra = b.ra := by
    constructor
    · rintro rfl; simp
    · obtain ⟨f, d, l, c, r⟩ := a
      obtain ⟨f', d', l', c', r'⟩ := b
      simp only
      rintro ⟨rfl, rfl, rfl, rfl, rfl⟩; rfl
  simp only [decide_eq_decide.2 eqv]
  by_cases g1 : a.fa = b.fa
  · by_cases g2 : a.de = b.de
    · by_cases g3 : a.lo = b.lo
      · by_cases g4 : a.cu = b.cu
        · by_cases g5 : a.ra.length = b.ra.length
          · have g5' : (a.ra.length : Int) = b.ra.length := by omega
            simp [g1] at e1; simp [g2] at e2; simp [g3] at e3; simp [g4] at e4
            simp [runFun_eq, Vd.cells, e1, e2, e3, e4, g1, g2, g3, g4, g5']
            simp only [ev_bnd_iff]
            refine (loop13 a b a.ra b.ra [] [] _ rfl rfl g5 rfl (by simp; omega) (by simp [g1, g2, g3, g4])).mono ?_
            rintro ⟨x, s⟩ hq
            by_cases e : a.ra = b.ra
            · rw [if_pos e] at hq
              obtain ⟨rfl, hs⟩ := hq
              simp [hs, e]
            · rw [if_neg e] at hq
              obtain ⟨rfl, hs⟩ := hq
              simp [endK_hd (res := [.t 4]) (live := [4]) (by simp [AR.slot]) hs, e]
          · have g5' : ¬ (a.ra.length : Int) = b.ra.length := by omega
            have e : ¬ a.ra = b.ra := fun x => g5 (by rw [x])
            simp [g1] at e1; simp [g2] at e2; simp [g3] at e3; simp [g4] at e4
            simp [runFun_eq, Vd.cells, e1, e2, e3, e4, g1, g2, g3, g4, g5', e]
        · simp [g1] at e1; simp [g2] at e2; simp [g3] at e3; simp [g4] at e4
          simp [runFun_eq, Vd.cells, e1, e2, e3, e4, g1, g2, g3, g4]
      · simp [g1] at e1; simp [g2] at e2; simp [g3] at e3
        simp [runFun_eq, Vd.cells, e1, e2, e3, g1, g2, g3]
    · simp [g1] at e1; simp [g2] at e2
      simp [runFun_eq, Vd.cells, e1, e2, g1, g2]
  · simp [g1] at e1; simp [runFun_eq, Vd.cells, e1, g1]
end Go.Am

/- VerdictBugs returns true. -/
set_option linter.unusedVariables false
set_option linter.unusedSimpArgs false
set_option maxRecDepth 10000
namespace Go.Am
open Go.Proofs

theorem loop3 (a b : Vd) (k : Int) : ∀ (r pre : List Int) (s : St), pre.length + r.length < 1000 →
    hd [2, 3, 4, 7, 8, 9] [] s = some ⟨[(2, .dat (.int .i64 k)), (3, .ref ((4, 0), 0, 0) 0), (4, .ref ((5, 0), 0, 0) 0), (7, .dat (.sl ((pre ++ r).map Nn))), (8, .dat (.sl ((pre ++ r).map Nn))), (9, .dat (.int .i64 pre.length))], [((4, 0), bx a), ((5, 0), bx b)]⟩ →
    Ev (loopLim (exec KV l3_0) s) fun p => p.1 = .exit 0 ∧ hd [2, 3, 4] [] p.2 = some ⟨[(2, .dat (.int .i64 k)), (3, .ref ((4, 0), 0, 0) 0), (4, .ref ((5, 0), 0, 0) 0)], [((4, 0), bx a), ((5, 0), bx b)]⟩
  | [], pre, s, hl, hs => by
    apply ev_loop
    simp [hs]
  | x :: r, pre, s, hl, hs => by
    have ix : Ix pre.length := by unfold Ix; omega
    apply ev_loop
    simp [hs, ix]
    exact loop3 a b k r (pre ++ [x]) _ (by simp; simp at hl; omega) (by simp [hs, ix])

theorem bugs_len (v : Vd) : (bugs v).length ≤ 4 := by
  unfold bugs
  split <;> split <;> split <;> split <;> simp

theorem law3 (a b : Vd) (k : Int) : KV 3 [.dat a.dat, .dat b.dat, .dat (.int .i64 k)] [] = some (.dat (.bool true), []) := by
  refine callT_ev (fn := fn3) rfl rfl ?_
  have s1 := small_run a
  have s2 := small_run b
  have lv := lives_run
  by_cases ha : (a.fa.length : Int) ≤ 50 ∧ (a.de.length : Int) ≤ 50 ∧ (a.lo.length : Int) ≤ 50 ∧ (a.cu.length : Int) ≤ 50 ∧ (a.ra.length : Int) ≤ 50
  · by_cases hb : (b.fa.length : Int) ≤ 50 ∧ (b.de.length : Int) ≤ 50 ∧ (b.lo.length : Int) ≤ 50 ∧ (b.cu.length : Int) ≤ 50 ∧ (b.ra.length : Int) ≤ 50
    · obtain ⟨a1, a2, a3, a4, a5⟩ := ha
      obtain ⟨b1, b2, b3, b4, b5⟩ := hb
      have q1 := bugs8 a
      have q2 := bugs9 a
      have q3 := name10 k
      have q4 := name11 k
      have q5 := equal12 a b (by simp; omega) (by omega) (by omega)
      have q6 := equal13 a b (by simp; omega) (by omega) (by omega)
      have q7 := equal12 a a (by simp; omega) (by omega) (by omega)
      simp [a1, a2, a3, a4, a5] at s1
      simp [b1, b2, b3, b4, b5] at s2
      simp at q7
      simp only [Vd.dat, Vd.cells] at s1 s2 q1 q2 q5 q6 q7
      simp [runFun_eq, Vd.cells, s1, s2, q1, q2]
      simp only [ev_bnd_iff]
      refine (loop3 a b k (bugs a) [] _ (by have := bugs_len a; simp; omega) (by simp)).mono ?_
      rintro ⟨x, s⟩ ⟨rfl, hs⟩
      simp [hs, q3, q4, q5, q6, q7, lv]
    · have hb' : (decide ((b.fa.length : Int) ≤ 50) && (decide ((b.de.length : Int) ≤ 50) && (decide ((b.lo.length : Int) ≤ 50) && (decide ((b.cu.length : Int) ≤ 50) && decide ((b.ra.length : Int) ≤ 50))))) = false := by
        rw [Bool.eq_false_iff]; simpa using hb
      obtain ⟨a1, a2, a3, a4, a5⟩ := ha
      rw [hb'] at s2
      simp [a1, a2, a3, a4, a5] at s1
      simp only [Vd.dat, Vd.cells] at s1 s2
      simp [runFun_eq, Vd.cells, s1, s2, lv]
  · have ha' : (decide ((a.fa.length : Int) ≤ 50) && (decide ((a.de.length : Int) ≤ 50) && (decide ((a.lo.length : Int) ≤ 50) && (decide ((a.cu.length : Int) ≤ 50) && decide ((a.ra.length : Int) ≤ 50))))) = false := by
      rw [Bool.eq_false_iff]; simpa using ha
    rw [ha'] at s1
    simp only [Vd.dat, Vd.cells] at s1
    simp [runFun_eq, Vd.cells, s1, lv]
end Go.Am

/- The abstract machine: what a law is handed reads as data. -/
set_option linter.unusedVariables false
namespace Go.Am

/-- every reading of a row of this type is a datum that fits T -/
def ReadsAs (P : Program) (w : World) (t : TypeId) (T : Dat → Prop) : Prop :=
  ∀ (H : Type) (enc : TypeId × Value → H) (base : Nat) (spare : Nat → Bool) (held : Bool) (fuel : Nat) (cs : List Value) (x : DataW H × List MemPlace),
    DataW.trod enc P w base spare held fuel t cs = some x → ∃ D, RepD (allF w) D cs ∧ T D

def IsInt (k : IntKind) (D : Dat) : Prop := ∃ n, D = .int k n ∧ (Lit.int k n).wf = true
def IsBool (D : Dat) : Prop := ∃ b, D = .bool b
def IsStr (D : Dat) : Prop := ∃ s, D = .str s ∧ s.length ≤ maxLen
def IsSl (T : Dat → Prop) (D : Dat) : Prop := ∃ l, D = .sl l ∧ (∀ d ∈ l, T d) ∧ l.length ≤ maxLen
def IsAgg (Ts : List (Dat → Prop)) (D : Dat) : Prop := ∃ ds : List Dat, D = .agg (ds.flatMap Dat.cells) ∧ ds.length = Ts.length ∧ ∀ (i : Nat) (T : Dat → Prop) (d : Dat), Ts[i]? = some T → ds[i]? = some d → T d

section
variable {P : Program} {w : World} {t e : TypeId}

theorem reads_int {k : IntKind} (ht : P.underlying t = some (.int k)) : ReadsAs P w t (IsInt k) := by
  intro H enc base spare held fuel cs x h
  obtain ⟨n, rfl, _, hw⟩ := DataW.trod_int ht h
  exact ⟨.int k n, by simp [RepD], n, rfl, hw⟩

theorem reads_bool (ht : P.underlying t = some .bool) : ReadsAs P w t IsBool := by
  intro H enc base spare held fuel cs x h
  obtain ⟨b, rfl, _⟩ := DataW.trod_bool ht h
  exact ⟨.bool b, by simp [RepD], b, rfl⟩

theorem reads_string (ht : P.underlying t = some .string) : ReadsAs P w t IsStr := by
  intro H enc base spare held fuel cs x h
  obtain ⟨s, rfl, _, hs⟩ := DataW.trod_string ht h
  exact ⟨.str s.data.toList, by simp [RepD], s.data.toList, rfl, by simpa using hs⟩

theorem reads_slice {T : Dat → Prop} (ht : P.underlying t = some (.slice e)) (hc : 0 < P.cellsOf e) (he : ReadsAs P w e T) : ReadsAs P w t (IsSl T) := by
  intro H enc base spare held fuel cs x h
  rcases DataW.trod_slice ht h with ⟨rfl, _⟩ | ⟨a, len, cap, elems, rest, n, _, rfl, _, hb, hl, hm, hlen, hel, _, _⟩
  · exact ⟨.sl [], by simp [RepD], [], rfl, by simp, by simp⟩
  · have each : ∀ i, i < len → ∃ D cs, RepD (allF w) D cs ∧ T D ∧ cs.length = P.cellsOf e ∧ (∀ j, j < P.cellsOf e → w.cell? ((a.add (i * P.cellsOf e)).add j) = cs[j]?) := by
      intro i hi
      have h1 := hel i hi
      have h2 : elems[i]? = some (elems[i]'(by omega)) := by simp
      rw [h2, Option.bind_eq_some_iff] at h1
      obtain ⟨cs', hcs, hy⟩ := h1
      obtain ⟨D, hD, hT⟩ := he H enc base spare held n cs' _ hy
      obtain ⟨_, hlen', hcell⟩ := World.cells?_some hcs
      exact ⟨D, cs', hD, hT, hlen', hcell⟩
    have list : ∀ m, m ≤ len → ∃ l : List Dat, l.length = m ∧ (∀ d ∈ l, T d) ∧ ∀ i d, l[i]? = some d → ∃ cs, RepD (allF w) d cs ∧ cs.length = P.cellsOf e ∧ (∀ j, j < P.cellsOf e → w.cell? ((a.add (i * P.cellsOf e)).add j) = cs[j]?) := by
      intro m
      induction m with
      | zero => intro _; exact ⟨[], rfl, by simp, by simp⟩
      | succ m ih =>
        intro hm'
        obtain ⟨l, l1, l2, l3⟩ := ih (by omega)
        obtain ⟨D, cs, d1, d2, d3, d4⟩ := each m (by omega)
        refine ⟨l ++ [D], by simp [l1], fun d hd => ?_, fun i d hi => ?_⟩
        · rcases List.mem_append.1 hd with hd | hd
          · exact l2 d hd
          · simp at hd; subst hd; exact d2
        · by_cases him : i < m
          · rw [List.getElem?_append_left (by omega)] at hi
            exact l3 i d hi
          · rw [List.getElem?_append_right (by omega)] at hi
            have : i = m := by
              have := (List.getElem?_eq_some_iff.1 hi).1
              simp at this
              omega
            subst this
            simp [l1] at hi
            subst hi
            exact ⟨cs, d1, d3, d4⟩
    obtain ⟨l, l1, l2, l3⟩ := list len (Nat.le_refl _)
    refine ⟨.sl l, ?_, l, rfl, l2, by omega⟩
    simp only [RepD]
    refine ⟨some a, cap, by rw [l1], by omega, ?_⟩
    cases l with
    | nil => exact .inl rfl
    | cons d r =>
      right
      have hspot : a.spot = none := by
        obtain ⟨cs, c1, c2, c3⟩ := l3 0 d rfl
        have := c3 0 hc
        cases hs : a.spot with
        | none => rfl
        | some sp =>
          have hcs : cs[0]? = some (cs[0]'(by omega)) := by simp
          rw [hcs] at this
          unfold World.cell? at this
          simp only [Addr.add] at this
          split at this
          · simp at this; rw [hs] at this; simp at this
          · cases this
      refine ⟨a.block, a.off, P.cellsOf e, by cases a; simp only at hspot; subst hspot; rfl, rowD_of fun i d hi => ?_⟩
      obtain ⟨cs, c1, c2, c3⟩ := l3 i d hi
      refine ⟨cs, c2, c1, fun j v hj => ?_⟩
      have hjl : j < P.cellsOf e := by rw [← c2]; exact (List.getElem?_eq_some_iff.1 hj).1
      have := c3 j hjl
      rw [hj] at this
      have ea : (a.add (i * P.cellsOf e)).add j = ⟨a.block, a.off + i * P.cellsOf e + j, none⟩ := by
        obtain ⟨b, o, s⟩ := a
        simp only at hspot
        subst hspot
        unfold Addr.add
        split <;> split <;> simp_all
      rw [ea] at this
      exact this

/-- the fields lie one behind the other, to the end -/
def laid (P : Program) (total : Nat) : Nat → List Field → Bool
  | o, [] => o == total
  | o, f :: r => f.offset == o && laid P total (o + P.cellsOf f.type) r

theorem reads_fields {cs : List Value} {total : Nat} (hlen : cs.length = total) : ∀ (fs : List Field) (Ts : List (Dat → Prop)) (o : Nat), laid P total o fs = true → fs.length = Ts.length →
    (∀ (i : Nat) (f : Field) (T : Dat → Prop), fs[i]? = some f → Ts[i]? = some T → ∃ D, RepD (allF w) D ((cs.drop f.offset).take (P.cellsOf f.type)) ∧ T D) →
    ∃ ds : List Dat, AggD (allF w) (ds.flatMap Dat.cells) (cs.drop o) ∧ ds.length = Ts.length ∧ ∀ (i : Nat) (T : Dat → Prop) (d : Dat), Ts[i]? = some T → ds[i]? = some d → T d
  | [], [], o, h, _, _ => by
    simp only [laid, beq_iff_eq] at h
    refine ⟨[], ?_, rfl, by simp⟩
    rw [List.drop_of_length_le (by omega)]
    simp [AggD]
  | [], T :: Ts, o, h, hl, _ => by simp at hl
  | f :: fs, [], o, h, hl, _ => by simp at hl
  | f :: fs, T :: Ts, o, h, hl, he => by
    simp only [laid, Bool.and_eq_true, beq_iff_eq] at h
    obtain ⟨h1, h2⟩ := h
    obtain ⟨ds, e1, e2, e3⟩ := reads_fields hlen fs Ts _ h2 (by simpa using hl) fun i f' T' hi hT => he (i + 1) f' T' (by simpa using hi) (by simpa using hT)
    obtain ⟨D, d1, d2⟩ := he 0 f T rfl rfl
    refine ⟨D :: ds, ?_, by simp [e2], fun i T' d hi hd => ?_⟩
    · rw [List.flatMap_cons]
      have := (d1.cellsAgg).append e1
      rw [h1] at this
      have hsplit : (cs.drop o).take (P.cellsOf f.type) ++ cs.drop (o + P.cellsOf f.type) = cs.drop o := by
        rw [← List.drop_drop, List.take_append_drop]
      rwa [hsplit] at this
    · cases i with
      | zero => simp at hi hd; subst hi; subst hd; exact d2
      | succ i => exact e3 i T' d (by simpa using hi) (by simpa using hd)

theorem reads_struct {fs : Array Field} {Ts : List (Dat → Prop)} (ht : P.underlying t = some (.struct fs)) (hl : laid P (P.cellsOf t) 0 fs.toList = true) (hn : fs.size = Ts.length)
    (he : ∀ (i : Nat) (f : Field) (T : Dat → Prop), fs[i]? = some f → Ts[i]? = some T → ReadsAs P w f.type T) : ReadsAs P w t (IsAgg Ts) := by
  intro H enc base spare held fuel cs x h
  obtain ⟨xs, n, _, _, hlen, hxs, hf⟩ := DataW.trod_struct ht h
  obtain ⟨ds, e1, e2, e3⟩ := reads_fields (w := w) hlen fs.toList Ts 0 hl (by simpa using hn) fun i f T hi hT => by
    have hi' : fs[i]? = some f := by simpa using hi
    have hlt : i < xs.length := by rw [hxs]; exact (Array.getElem?_eq_some_iff.1 hi').1
    have := hf i f hi'
    rw [List.getElem?_eq_getElem hlt] at this
    exact he i f T hi' hT H enc base spare held n _ _ this
  exact ⟨.agg (ds.flatMap Dat.cells), by simpa [RepD] using e1, ds, rfl, e2, e3⟩

/-- an argument that is no struct -/
theorem reads_arg {T : Dat → Prop} {H : Type} {enc : TypeId × Value → H} {base : Nat} {spare : Nat → Bool} {held : Bool} {v : Value} {d : DataW H} {ps : List MemPlace} (h : DataW.Trod enc P w base spare held t v d ps) (hr : ReadsAs P w t T)
    (hv : isAggV v = false) (hT : ∀ D, T D → D.isAgg = false) : ∃ D, RepA (ctx0 w) (.dat D) v ∧ T D := by
  obtain ⟨fuel, hf⟩ := h
  obtain ⟨D, h1, h2⟩ := hr H enc base spare held fuel _ _ hf
  exact ⟨D, ⟨h1, by rw [hv, hT D h2]⟩, h2⟩

end
end Go.Am

/- The abstract machine: what it answers for all data of the right shape, a law says of all arguments. -/
set_option linter.unusedVariables false
namespace Go.Am
open Go.RowKit Go.ChangeShapes Go.WideShapes

structure ArgOK (P : Program) (t : TypeId) (T : Dat → Prop) : Prop where
  rd : ∀ w, ReadsAs P w t T
  agg : ∀ (w : World) (base : Nat) (v : Value), Value.okWide P w .any base t v → ∀ D, T D → isAggV v = D.isAgg
  read : P.readableRec t = true
  row : t < P.types.size

def ArgsOK (P : Program) : List TypeId → List (Dat → Prop) → Prop
  | [], [] => True
  | t :: ts, T :: Ts => ArgOK P t T ∧ ArgsOK P ts Ts
  | _, _ => False

def AllD : List (Dat → Prop) → List Dat → Prop
  | [], [] => True
  | T :: Ts, D :: Ds => T D ∧ AllD Ts Ds
  | _, _ => False

theorem args_read {P : Program} {H : Type} {enc : TypeId × Value → H} {w : World} {base : Nat} : ∀ (ts : List TypeId) (Ts : List (Dat → Prop)) (vs : List Value) (ds : List (DataW H)) (ps : List MemPlace),
    ArgsOK P ts Ts → DataW.TrodAll enc P w 0 (fun _ => true) true ts vs ds ps → (∀ (j : Nat) t v, ts[j]? = some t → vs[j]? = some v → Value.okWide P w .any base t v) →
    ∃ Ds : List Dat, AllD Ts Ds ∧ RepL (ctx0 w) (Ds.map .dat) vs
  | [], [], vs, ds, ps, _, h, _ => by
    obtain ⟨rfl, rfl, rfl⟩ := trodAll_nil h
    exact ⟨[], trivial, rfl⟩
  | t :: ts, T :: Ts, vs, ds, ps, hA, h, hv => by
    obtain ⟨v, vs', d, ds', p, q, rfl, rfl, rfl, h0, hr⟩ := trodAll_cons h
    obtain ⟨a0, ar⟩ := hA
    obtain ⟨Ds, h1, h2⟩ := args_read ts Ts vs' ds' q ar hr fun j t v ht hvj => hv (j + 1) t v (by simpa using ht) (by simpa using hvj)
    obtain ⟨fuel, hf⟩ := h0
    obtain ⟨D, d1, d2⟩ := a0.rd w H enc 0 (fun _ => true) true fuel _ _ hf
    exact ⟨D :: Ds, ⟨d2, h1⟩, v, vs', rfl, ⟨d1, a0.agg w base v (hv 0 t v rfl rfl) D d2⟩, h2⟩
  | [], T :: Ts, _, _, _, h, _, _ => h.elim
  | t :: ts, [], _, _, _, h, _, _ => h.elim

theorem args_again {P : Program} {H : Type} {enc : TypeId × Value → H} {w w' : World} (hl : laidOutB P = true) (sp : Nat → Bool) : ∀ (ts : List TypeId) (Ts : List (Dat → Prop)) (vs : List Value) (ds : List (DataW H)) (ps : List MemPlace),
    ArgsOK P ts Ts → DataW.TrodAll enc P w 0 (fun _ => true) true ts vs ds ps → (∀ p ∈ ps, w.sameAt w' p) → (∀ p ∈ ps, sp p.block = true) → DataW.TrodAll enc P w' 0 sp true ts vs ds ps
  | [], [], vs, ds, ps, _, h, _, _ => by
    obtain ⟨rfl, rfl, rfl⟩ := trodAll_nil h
    exact trodAll_mk0
  | t :: ts, T :: Ts, vs, ds, ps, hA, h, hs, hp => by
    obtain ⟨v, vs', d, ds', p, q, rfl, rfl, rfl, h0, hr⟩ := trodAll_cons h
    obtain ⟨a0, ar⟩ := hA
    exact trodAll_cons_mk (WideElems.Trod_stays hl a0.read a0.row h0 (fun x hx => hs x (by simp [hx])) (fun x hx => hp x (by simp [hx])))
      (args_again hl sp ts Ts vs' ds' q ar hr (fun x hx => hs x (by simp [hx])) (fun x hx => hp x (by simp [hx])))
  | [], T :: Ts, _, _, _, h, _, _, _ => h.elim
  | t :: ts, [], _, _, _, h, _, _, _ => h.elim

theorem Grown.same {w w' : World} (h : Grown w w') {p : MemPlace} (hb : p.block < w.heap.size) : w.sameAt w' p := by
  have hk := h.1
  cases p with
  | cell b o => exact hk.cell hb (fun h => h)
  | map b =>
    show w'.heap[b]? = w.heap[b]?
    have hk := hk.2.2 b hb
    split at hk
    · rename_i c t fr c' t' fr' e1 e2
      obtain ⟨rfl, rfl, h3, h4⟩ := hk
      have : c' = c := Array.ext_getElem? fun j => h4 j (fun h => h)
      rw [e1, e2, this]
    · rename_i e1 e2
      rcases hk with hf | ⟨rfl, rfl⟩
      · exact hf.elim
      · rw [e1, e2]
    · exact hk

/-- THE CONTRACT OF A LAW: true, and nothing turned. -/
theorem law_contract [Glob] {P : Program} {tbl : Tab} (ht : TblOK P tbl) (hl : laidOutB P = true) {f : FuncId} {fn : Func} {s : ChangeSpec} {Ts : List (Dat → Prop)} (hA : ArgsOK P fn.params.toList Ts)
    {tb : TypeId} (htb : P.underlying tb = some .bool) (hres : fn.resultTypes = #[tb]) (hvars : s.vars = [])
    (hfn : ∀ (H : Type) (ds : List (DataW H)), ds.length = fn.params.size → s.fn H ds = { results := [.lit (.bool true)], args := ds })
    {H : Type} {enc : TypeId × Value → H} {W : World} {base : Nat} {args : Array Value} {ds gs : List (DataW H)} {before : List MemPlace}
    (hG : GlobOK (allF W)) (hrun : ∀ Ds, AllD Ts Ds → RepL (ctx0 W) (Ds.map .dat) args.toList → ∃ os', callT tbl f (Ds.map .dat) [] = some (.dat (.bool true), os'))
    (hval : ∀ (j : Nat) t v, fn.params[j]? = some t → args[j]? = some v → Value.okWide P W .any base t v)
    (hW : DataW.Whole enc P fn.params.toList s.vars false W args.toList ds gs before) :
    Calls P f args W fun e W' => ∃ v, e = .returned v ∧ s.post enc P fn false true false false W args v W' := by
  have hW' := hW
  obtain ⟨p, q, hA0, hV, rfl, hfz, hnd⟩ := hW
  rw [hvars] at hV
  obtain ⟨rfl, rfl⟩ := trodVars_none hV
  obtain ⟨Ds, h1, h2⟩ := args_read _ _ _ _ _ hA hA0 fun j t v ht hv => hval j t v (by simpa using ht) (by simpa using hv)
  obtain ⟨os', ho⟩ := hrun Ds h1 h2
  refine (top_calls ht ho hG h2).mono fun e W1 ⟨he, hg⟩ => ?_
  have hlen : ∀ (ts : List TypeId) (vs : List Value) (ds : List (DataW H)) (ps : List MemPlace), DataW.TrodAll enc P W 0 (fun _ => true) true ts vs ds ps → ds.length = ts.length := by
    intro ts
    induction ts with
    | nil => intro vs ds ps h; obtain ⟨rfl, rfl, rfl⟩ := trodAll_nil h; rfl
    | cons t ts ih =>
      intro vs ds ps h
      obtain ⟨v, vs', d, ds', p, q, rfl, rfl, rfl, _, hr⟩ := trodAll_cons h
      simp [ih _ _ _ hr]
  have hds := hlen _ _ _ _ hA0
  have hs := hfn H ds (by rw [hds]; simp)
  subst he
  refine ⟨_, rfl, post_of_same (pa := p) (pv := []) hW' (fun b sp hd => ?_) (fun sp hsp => ?_) (fun _ _ => ?_) (by simp) (hg.frame _) hg.2.1 (ok_one hres rfl (okWide_bool_mk htb _))⟩
  · rw [List.append_nil, hs, hres]
    exact trodAll_cons_mk (shut_bool htb _) trodAll_mk0
  · rw [List.append_nil, hs]
    exact args_again hl sp _ _ _ _ _ hA hA0 (fun x hx => Grown.same hg (hW'.lt x (by simpa using hx))) (fun x hx => hsp x (by simpa using hx))
  · rw [hvars, List.append_nil, hs]
    rfl

/-! ## What the listed package variables hold -/

/-- a datum's cells -/
def flatW {H : Type} : DataW H → List Dat
  | .lit (.int k n) => [.int k n]
  | .lit (.bool b) => [.bool b]
  | .lit (.string s) => [.str s]
  | .agg l => flatWs l
  | _ => []
  where
  flatWs : List (DataW H) → List Dat
    | [] => []
    | d :: r => flatW d ++ flatWs r

/-- rows of this type hold what they read as, cell by cell -/
def ReadsV (P : Program) (w : World) (t : TypeId) : Prop :=
  ∀ (H : Type) (enc : TypeId × Value → H) (base : Nat) (spare : Nat → Bool) (held : Bool) (fuel : Nat) (cs : List Value) (x : DataW H × List MemPlace),
    DataW.trod enc P w base spare held fuel t cs = some x → AggD (allF w) (flatW x.1) cs

section
variable {P : Program} {w : World} {t e : TypeId}

theorem readsV_int {k : IntKind} (ht : P.underlying t = some (.int k)) : ReadsV P w t := by
  intro H enc base spare held fuel cs x h
  obtain ⟨n, rfl, hx, _⟩ := DataW.trod_int ht h
  rw [hx]
  simp [flatW, AggD, RepD]

theorem readsV_bool (ht : P.underlying t = some .bool) : ReadsV P w t := by
  intro H enc base spare held fuel cs x h
  obtain ⟨b, rfl, hx⟩ := DataW.trod_bool ht h
  rw [hx]
  simp [flatW, AggD, RepD]

theorem readsV_string (ht : P.underlying t = some .string) : ReadsV P w t := by
  intro H enc base spare held fuel cs x h
  obtain ⟨s, rfl, hx, _⟩ := DataW.trod_string ht h
  rw [hx]
  simp [flatW, AggD, RepD]

theorem flatWs_cons {H : Type} (d : DataW H) (r : List (DataW H)) : flatW.flatWs (d :: r) = flatW d ++ flatW.flatWs r := rfl

theorem readsV_fields {H : Type} {F : Froz} {cs : List Value} {total : Nat} (hlen : cs.length = total) : ∀ (fs : List Field) (o : Nat) (xs : List (DataW H × List MemPlace)), laid P total o fs = true → xs.length = fs.length →
    (∀ (i : Nat) (f : Field), fs[i]? = some f → ∃ x, xs[i]? = some x ∧ AggD F (flatW x.1) ((cs.drop f.offset).take (P.cellsOf f.type))) → AggD F (flatW.flatWs (xs.map (·.1))) (cs.drop o)
  | [], o, xs, hl, hn, h => by
    have : xs = [] := List.eq_nil_of_length_eq_zero (by simpa using hn)
    subst this
    simp only [laid, beq_iff_eq] at hl
    have : cs.drop o = [] := List.drop_of_length_le (by omega)
    rw [this]
    simp [flatW.flatWs, AggD]
  | f :: fs, o, [], hl, hn, h => by simp at hn
  | f :: fs, o, x :: xs, hl, hn, h => by
    simp only [laid, Bool.and_eq_true, beq_iff_eq] at hl
    obtain ⟨h1, h2⟩ := hl
    obtain ⟨x', hx, hd⟩ := h 0 f rfl
    simp only [List.getElem?_cons_zero, Option.some.injEq] at hx
    subst hx
    have ih := readsV_fields hlen fs (o + P.cellsOf f.type) xs h2 (by simpa using hn) fun i f' hi => by
      have := h (i + 1) f' (by simpa using hi)
      simpa using this
    simp only [List.map_cons, flatWs_cons]
    have e : cs.drop o = (cs.drop o).take (P.cellsOf f.type) ++ cs.drop (o + P.cellsOf f.type) := by
      rw [← List.drop_drop, List.take_append_drop]
    rw [e]
    rw [h1] at hd
    exact hd.append ih

theorem readsV_struct {fs : Array Field} (ht : P.underlying t = some (.struct fs)) (hl : laid P (P.cellsOf t) 0 fs.toList = true) (he : ∀ (i : Nat) (f : Field), fs[i]? = some f → ReadsV P w f.type) : ReadsV P w t := by
  intro H enc base spare held fuel cs x h
  obtain ⟨xs, n, _, hx, hlen, hxs, hf⟩ := DataW.trod_struct ht h
  rw [hx]
  have := readsV_fields (F := allF w) hlen fs.toList 0 xs hl (by simpa using hxs) fun i f hi => by
    have hi' : fs[i]? = some f := by simpa using hi
    have hlt : i < xs.length := by rw [hxs]; exact (Array.getElem?_eq_some_iff.1 hi').1
    have := hf i f hi'
    rw [List.getElem?_eq_getElem hlt] at this
    exact ⟨xs[i], List.getElem?_eq_getElem hlt, he i f hi' H enc base spare held n _ _ this⟩
  simpa [flatW] using this

theorem readsV_array {n : Nat} (ht : P.underlying t = some (.array n e)) (hc : P.cellsOf t = n * P.cellsOf e) (he : ReadsV P w e) : ReadsV P w t := by
  intro H enc base spare held fuel cs x h
  obtain ⟨xs, m, _, hx, hlen, hxs, hf⟩ := DataW.trod_array ht h
  rw [hx]
  have key : ∀ (k : Nat), k ≤ n → AggD (allF w) (flatW.flatWs ((xs.drop (n - k)).map (·.1))) (cs.drop ((n - k) * P.cellsOf e)) := by
    intro k
    induction k with
    | zero =>
      intro _
      rw [Nat.sub_zero, List.drop_of_length_le (by omega), List.drop_of_length_le (by omega)]
      simp [flatW.flatWs, AggD]
    | succ k ih =>
      intro hk
      have ih := ih (by omega)
      have hlt : n - (k + 1) < xs.length := by omega
      rw [List.drop_eq_getElem_cons hlt, List.map_cons, flatWs_cons]
      have h1 := hf (n - (k + 1)) (by omega)
      rw [List.getElem?_eq_getElem hlt] at h1
      have h2 := he H enc base spare held m _ _ h1
      have e1 : cs.drop ((n - (k + 1)) * P.cellsOf e) = (cs.drop ((n - (k + 1)) * P.cellsOf e)).take (P.cellsOf e) ++ cs.drop ((n - k) * P.cellsOf e) := by
        have : (n - k) * P.cellsOf e = (n - (k + 1)) * P.cellsOf e + P.cellsOf e := by
          have : n - k = n - (k + 1) + 1 := by omega
          rw [this, Nat.add_mul]; omega
        rw [this, ← List.drop_drop, List.take_append_drop]
      rw [e1]
      have e2 : n - (k + 1) + 1 = n - k := by omega
      rw [e2]
      exact h2.append ih
  have := key n (Nat.le_refl _)
  simpa [flatW] using this

end

theorem argInt {P : Program} {t : TypeId} {k : IntKind} (ht : P.underlying t = some (.int k)) (hr : P.readableRec t = true) (hs : t < P.types.size) : ArgOK P t (IsInt k) :=
  ⟨fun w => reads_int ht, fun w base v hv D ⟨n, h, _⟩ => by obtain ⟨n', rfl⟩ := okWide_int ht hv; subst h; rfl, hr, hs⟩
theorem argBool {P : Program} {t : TypeId} (ht : P.underlying t = some .bool) (hr : P.readableRec t = true) (hs : t < P.types.size) : ArgOK P t IsBool :=
  ⟨fun w => reads_bool ht, fun w base v hv D ⟨n, h⟩ => by obtain ⟨n', rfl⟩ := okWide_bool ht hv; subst h; rfl, hr, hs⟩
theorem argStr {P : Program} {t : TypeId} (ht : P.underlying t = some .string) (hr : P.readableRec t = true) (hs : t < P.types.size) : ArgOK P t IsStr :=
  ⟨fun w => reads_string ht, fun w base v hv D ⟨n, h, _⟩ => by obtain ⟨n', rfl⟩ := okWide_string ht hv; subst h; rfl, hr, hs⟩
theorem argSlice {P : Program} {t e : TypeId} {T : Dat → Prop} (ht : P.underlying t = some (.slice e)) (hc : 0 < P.cellsOf e) (he : ∀ w, ReadsAs P w e T) (hr : P.readableRec t = true) (hs : t < P.types.size) : ArgOK P t (IsSl T) :=
  ⟨fun w => reads_slice ht hc (he w), fun w base v hv D ⟨n, h, _⟩ => by obtain ⟨a, l, c, rfl⟩ := okWide_slice ht hv; subst h; rfl, hr, hs⟩
theorem argStruct {P : Program} {t : TypeId} {fs : Array Field} {Ts : List (Dat → Prop)} (ht : P.underlying t = some (.struct fs)) (hl : laid P (P.cellsOf t) 0 fs.toList = true) (hn : fs.size = Ts.length)
    (he : ∀ w, ∀ (i : Nat) (f : Field) (T : Dat → Prop), fs[i]? = some f → Ts[i]? = some T → ReadsAs P w f.type T) (hr : P.readableRec t = true) (hs : t < P.types.size) : ArgOK P t (IsAgg Ts) :=
  ⟨fun w => reads_struct ht hl hn (he w), fun w base v hv D ⟨n, h, _⟩ => by obtain ⟨cs, rfl, _⟩ := okWide_struct ht hv; subst h; rfl, hr, hs⟩

end Go.Am
