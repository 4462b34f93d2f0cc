/- Walks: a record of a disk. -/
import Derived.Test.YtpmlioigoiipaaaJW10
set_option linter.unusedVariables false
set_option linter.unusedSimpArgs false
set_option maxRecDepth 10000
namespace Go.Am
open Go.Proofs

def allC (du : List (List UInt8)) (pe : List (Int × List UInt8)) : List (List UInt8) := (List.range du.length).map (cont du pe)

theorem allC_len (du : List (List UInt8)) (pe : List (Int × List UInt8)) : (allC du pe).length = du.length := by simp [allC]
theorem allC_get (du : List (List UInt8)) (pe : List (Int × List UInt8)) {i : Nat} (h : i < du.length) : (allC du pe)[i]? = some (cont du pe i) := by simp [allC, h]
theorem allC_nil (du : List (List UInt8)) : allC du [] = du := by
  apply List.ext_getElem?
  intro i
  by_cases h : i < du.length
  · rw [allC_get du [] h]
    obtain ⟨d, hd⟩ := get_at du h
    simp [cont, lastW, hd]
  · rw [List.getElem?_eq_none (by rw [allC_len]; omega), List.getElem?_eq_none (by omega)]

def pay (l : List (List UInt8)) : List UInt8 := l.flatMap (·.drop 12)

def recB (all : List (List UInt8)) (at' n : Nat) : Option (List UInt8 × Nat) :=
  if all.length ≤ at' then none else
  if num4 (all.getD at' []) = 0 ∨ num2 (all.getD at' []) = 0 ∨ all.length < at' + num2 (all.getD at' []) then none else
  if (fopB (pay ((all.drop at').take (num2 (all.getD at' []))))).2.2 ≠ 0 then none else
  if imageB (fopB (pay ((all.drop at').take (num2 (all.getD at' []))))).1 n (num4 (all.getD at' [])) = (all.drop at').take (num2 (all.getD at' [])) then
    some ((fopB (pay ((all.drop at').take (num2 (all.getD at' []))))).1, num2 (all.getD at' []))
  else none
  where num2 (l : List UInt8) : Nat := (l.getD 10 0).toNat + 256 * (l.getD 11 0).toNat

/-- a disk's objects in a store -/
def dst (v : Nat) (du : List (List UInt8)) (cr op : Int) (pv : AVal) (po : List Obj) : Store := ((0, 0), dskB (.rsl (0, 1) v 1 0 du.length) pv cr op) :: ((0, 1), .arr 1 v false (du.map Bs)) :: (match po with | [] => [] | o :: _ => [((0, 2), o)])

def datPost (v : Nat) (du : List (List UInt8)) (cr op : Int) (pv : AVal) (po : List Obj) (at' n e k : Nat) (data : List UInt8) (q : AEx × St) : Prop := q.1 = .exit 0 ∧ ∃ v',
  hd [0, 1, 2, 10, 11, 12] [] q.2 = some ⟨[(0, .ref (0, 0) 0), (1, .dat (.int .i64 at')), (2, .dat (.int .u32 n)), (10, .dat (.int .u32 e)), (11, .dat (.int .i64 k)), (12, .rsl (13, 0) v' 1 0 data.length)], dst v du cr op pv po ++ [((13, 0), .arr 1 v' false (data.map B))]⟩

theorem dat_loop {v : Nat} {du : List (List UInt8)} {pe : List (Int × List UInt8)} {cr op : Int} {pv : AVal} {po : List Obj} (hp : Pend pe pv po) (hl : pe.length < 1000000000) (h64 : ∀ d ∈ du, d.length = 64) (h64' : ∀ w ∈ pe, w.2.length = 64) (hdl : du.length < 1000000)
    (at' n e k : Nat) (hk : at' + k ≤ du.length) : ∀ (m j v' : Nat) (s : St) (data : List UInt8), j + m = k → data = pay (((allC du pe).drop at').take j) → data.length ≤ 52 * j →
    hd [0, 1, 2, 10, 11, 12, 59, 60] [0, 12] s = some ⟨[(0, .ref (0, 0) 0), (1, .dat (.int .i64 at')), (2, .dat (.int .u32 n)), (10, .dat (.int .u32 e)), (11, .dat (.int .i64 k)), (12, .rsl (13, 0) v' 1 0 data.length), (59, .dat (.int .i64 k)), (60, .dat (.int .i64 j))], dst v du cr op pv po ++ [((13, 0), .arr 1 v' false (data.map B))]⟩ →
    Ev (loopLim (exec KJ l37_0) s) (datPost v du cr op pv po at' n e k (pay (((allC du pe).drop at').take k))) := by
  intro m
  induction m with
  | zero =>
    intro j v' s data hj hd hle hs
    apply ev_loop
    have : j = k := by omega
    subst this
    rw [← hd]
    rcases hp with ⟨rfl, rfl, rfl⟩ | ⟨v2, rfl, rfl⟩ <;> simp [hs, datPost, dst, dskB]
  | succ m ih =>
    intro j v' s data hj hd hle hs
    apply ev_loop
    have hlt : j < k := by omega
    have hx : Ix j := by unfold Ix; omega
    have hr : (data.length + 52) * 2 ≤ 1099511627776 := by omega
    have hc := content_run (v := v) (du := du) (cr := cr) (op := op) hp hl (i := at' + j) (by omega)
    have hlen := cont_len h64 h64' (i := at' + j) (by omega)
    have ha1 : (at' : Int) + j < 1000000000000000 := by omega
    have ha2 : -1000000000000000 < (at' : Int) + j := by omega
    have hnext : pay (((allC du pe).drop at').take (j + 1)) = data ++ (cont du pe (at' + j)).drop 12 := by
      rw [List.take_add_one, List.getElem?_drop, allC_get du pe (by omega), hd]
      simp [pay]
    have ih2 := ih (j + 1) (v' + 1)
    generalize hQ : datPost v du cr op pv po at' n e k (pay (((allC du pe).drop at').take k)) = Q at ih2 ⊢
    have hdc : ((cont du pe (at' + j)).drop 12).length = 52 := by simp [hlen]
    generalize hX : cont du pe (at' + j) = X at *
    rcases hp with ⟨rfl, rfl, rfl⟩ | ⟨v2, rfl, rfl⟩
    · simp [dsk, dskB] at hc
      simp [hs, dst, dskB, hlt, hx, ha1, ha2, hc, hlen, hr, -List.map_take, -List.map_drop, take_map, drop_map]
      refine Ev.mono (ih2 _ (data ++ X.drop 12) (by omega) hnext.symm (by simp [hlen]; omega) ?_) (fun _ h => h)
      simp [dst, dskB, hlen]
    · simp [dsk, dskB] at hc
      simp [hs, dst, dskB, hlt, hx, ha1, ha2, hc, hlen, hr, -List.map_take, -List.map_drop, take_map, drop_map]
      refine Ev.mono (ih2 _ (data ++ X.drop 12) (by omega) hnext.symm (by simp [hlen]; omega) ?_) (fun _ h => h)
      simp [dst, dskB, hlen]
end Go.Am
