/- Walks: the image of a record. -/
import Derived.Test.YtpmlioigoiipaaaJW5
set_option linter.unusedVariables false
set_option linter.unusedSimpArgs false
set_option maxRecDepth 10000
namespace Go.Am
open Go.Proofs

def le2 (x : Nat) : List UInt8 := [UInt8.ofNat x, UInt8.ofNat (x / 256)]
def chunk (data : List UInt8) (j : Nat) : List UInt8 := (data.drop (52 * j)).take 52
def secB (e n j k : Nat) (data : List UInt8) : List UInt8 := sumB e ++ sumB n ++ le2 j ++ le2 k ++ chunk data j ++ List.replicate (52 - (chunk data j).length) 0
def cntB (data : List UInt8) : Nat := (data.length + 51) / 52
def imageB (p : List UInt8) (n e : Nat) : List (List UInt8) := (List.range (cntB (sealB p))).map fun j => secB e n j (cntB (sealB p)) (sealB p)

def imgPost (k : Nat) (all : List (List UInt8)) (q : AEx × St) : Prop := q.1 = .exit 0 ∧ ∃ v', hd [9] [] q.2 = some ⟨[(9, .rsl (10, 0) v' 1 0 k)], [((10, 0), .arr 1 v' false (all.map Bs))]⟩

theorem image_loop (data : List UInt8) (n e : Nat) (hn : n < 4294967296) (he : e < 4294967296) (hd0 : data.length < 10000000) : ∀ (m j v : Nat) (s : St) (out : List (List UInt8)), j + m = cntB data → out.length = j →
    hd [1, 2, 7, 8, 9, 22, 23] [7, 9] s = some ⟨[(1, .dat (.int .u32 n)), (2, .dat (.int .u32 e)), (7, .dat (.sl (data.map B))), (8, .dat (.int .i64 (cntB data))), (9, .rsl (10, 0) v 1 0 out.length), (22, .dat (.int .i64 (cntB data))), (23, .dat (.int .i64 j))], [((10, 0), .arr 1 v false (out.map Bs))]⟩ →
    Ev (loopLim (exec KJ l40_1) s) (imgPost (cntB data) (out ++ (List.range m).map fun i => secB e n (j + i) (cntB data) data)) := by
  intro m
  induction m with
  | zero =>
    intro j v s out hj ho hs
    apply ev_loop
    have hj' : j = cntB data := by omega
    subst hj'
    simp [hs, ho, imgPost]
  | succ m ih =>
    intro j v s out hj ho hs
    apply ev_loop
    have hc : cntB data < 1000000 := by unfold cntB; omega
    have hlt : (j : Int) < cntB data := by omega
    have hlt' : j < cntB data := by omega
    have hx : Ix j := by unfold Ix; omega
    have hlast : (out ++ (List.range (m + 1)).map fun i => secB e n (j + i) (cntB data) data) = (out ++ [secB e n j (cntB data) data]) ++ (List.range m).map fun i => secB e n (j + 1 + i) (cntB data) data := by
      rw [List.range_succ_eq_map]
      simp [Nat.add_assoc, Nat.add_comm 1, Function.comp_def]
    rw [hlast]
    generalize hQ : imgPost (cntB data) ((out ++ [secB e n j (cntB data) data]) ++ (List.range m).map fun i => secB e n (j + 1 + i) (cntB data) data) = Q
    have hrep : List.replicate 64 (Dat.int .u8 0) = Dat.int .u8 0 :: Dat.int .u8 0 :: Dat.int .u8 0 :: Dat.int .u8 0 :: Dat.int .u8 0 :: Dat.int .u8 0 :: Dat.int .u8 0 :: Dat.int .u8 0 :: Dat.int .u8 0 :: Dat.int .u8 0 :: Dat.int .u8 0 :: Dat.int .u8 0 :: List.replicate 52 (Dat.int .u8 0) := rfl
    have hw1 : 52 * (j : Int) < 1000000000000000 := by omega
    have hw2 : -1000000000000000 < 52 * (j : Int) := by omega
    have hw3 : 52 * j < data.length := by unfold cntB at hlt'; omega
    have hw4 : 52 * (j : Int) ≤ data.length := by omega
    have hw5 : (52 * (j : Int)).toNat = 52 * j := by omega
    have hw6 : ((data.length : Int) - 52 * j).toNat = data.length - 52 * j := by omega
    simp [hs, hlt, hlt', hx, hrep, -List.reduceReplicate]
    simp only [ev_bnd_iff]
    apply ev_loop
    simp [-List.reduceReplicate]
    apply ev_loop
    simp [-List.reduceReplicate]
    apply ev_loop
    have hw7 : (0 : Int) ≤ 52 * (j : Int) := by omega
    have hcl : (chunk data j).length = min 52 (data.length - 52 * j) := by simp [chunk]
    have hc52 : min 52 (data.length - 52 * j) ≤ 52 := by omega
    have hcm : min (data.length - 52 * j) 52 = min 52 (data.length - 52 * j) := Nat.min_comm _ _
    have hch : List.take 52 (List.drop (52 * j) data) = chunk data j := rfl
    generalize hC : min 52 (data.length - 52 * j) = c at *
    have hk1 : (12 : Int) + c < 1000000000000000 := by omega
    have hk2 : -1000000000000000 < (12 : Int) + c := by omega
    have hk3 : (0 : Int) ≤ 12 + c := by omega
    have hk4 : (12 : Int) + c ≤ 64 := by omega
    have hk5 : ((12 : Int) + c).toNat = 12 + c := by omega
    have hk6 : (64 - ((12 : Int) + c)).toNat = 52 - c := by omega
    have hk7 : 12 + c + (52 - c) = 12 + 52 := by omega
    have hk8 : c + (52 - c) = 52 := by omega
    have hr1 : (out.length + 1) * 25 ≤ 1099511627776 := by omega
    simp [-List.reduceReplicate, hw1, hw2, hw4, hw5, hw6, hw7, -List.map_take, -List.map_drop, take_map, drop_map, hC, hcm, hch, hcl, hk1, hk2, hk3, hk4, hk5, hk6, hk7, hk8, drop12, take12, hr1, hx, drop_none]
    rw [← hQ]
    refine ih (j + 1) (v + 1) _ (out ++ [secB e n j (cntB data) data]) (by omega) (by simp [ho]) ?_
    simp [secB, sumB, le2, hcl]

theorem sealB_len (p : List UInt8) : (sealB p).length ≤ 2 * p.length + 5 := by
  have := uintB_le p.length
  simp [sealB, sumB]
  omega

theorem image_run (p : List UInt8) (n e : Nat) (hp : p.length < 1000000) (hn : n < 4294967296) (he : e < 4294967296) :
    KJ 40 [.dat (.sl (p.map B)), .dat (.int .u32 n), .dat (.int .u32 e)] [] = some (.dat (.sl ((imageB p n e).map Bs)), []) := by
  refine callT_ev (fn := fn40) rfl rfl ?_
  have h1 := seal_run p (by omega)
  have h2 := sealB_len p
  have h3 : ((sealB p).length : Int) + 52 < 1000000000000000 := by omega
  have h4 : -1000000000000000 < ((sealB p).length : Int) + 52 := by omega
  have h5 : ((sealB p).length : Int) + 52 - 1 < 1000000000000000 := by omega
  have h6 : -1000000000000000 < ((sealB p).length : Int) + 52 - 1 := by omega
  have h7 : (0 : Int) ≤ ((sealB p).length : Int) + 52 - 1 := by omega
  have h8 : (((sealB p).length : Int) + 52 - 1) / 52 = (cntB (sealB p) : Nat) := by unfold cntB; omega
  have h8' : (((sealB p).length : Int) + 52 - 1).tdiv 52 = (cntB (sealB p) : Nat) := by rw [tdiv_pos h7, h8]
  have h9 : ((cntB (sealB p) : Nat) : Int) < 1000000000000000 := by unfold cntB; omega
  have h10 : -1000000000000000 < ((cntB (sealB p) : Nat) : Int) := by omega
  simp [runFun_eq, h1, h3, h4, h5, h6, h8', h9, h10]
  simp only [ev_bnd_iff]
  refine Ev.mono (image_loop (sealB p) n e hn he (by omega) (cntB (sealB p)) 0 0 _ [] (by omega) rfl (by simp)) ?_
  rintro ⟨_, s⟩ ⟨rfl, v', hs⟩
  simp at hs
  simp [hs, imageB]
end Go.Am
