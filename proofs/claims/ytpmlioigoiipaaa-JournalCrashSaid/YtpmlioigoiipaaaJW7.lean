/- Walks: the disk. -/
import Derived.Test.YtpmlioigoiipaaaJW6
set_option linter.unusedVariables false
set_option linter.unusedSimpArgs false
set_option maxRecDepth 10000
namespace Go.Am
open Go.Proofs

def dskB (du pe : AVal) (cr op : Int) : Obj := .box [du, pe, .dat (.int .i64 cr), .dat (.int .i64 op), .dat (.bool true)]
@[simp] def pnd (w : Int × List UInt8) : Dat := .agg [.int .i64 w.1, Bs w.2]

/-- how the pending writes are held -/
def Pend (pe : List (Int × List UInt8)) (pv : AVal) (po : List Obj) : Prop :=
  (pv = .nils ∧ po = [] ∧ pe = []) ∨ ∃ v2, pv = .rsl (0, 2) v2 2 0 pe.length ∧ po = [.arr 2 v2 false (pe.map pnd)]

/-- the objects of a disk -/
def dsk (v : Nat) (du : List (List UInt8)) (cr op : Int) (pv : AVal) (po : List Obj) : List Obj := dskB (.rsl (0, 1) v 1 0 du.length) pv cr op :: .arr 1 v false (du.map Bs) :: po

theorem valid_run {v : Nat} {du : List (List UInt8)} {pe : List (Int × List UInt8)} {cr op : Int} {pv : AVal} {po : List Obj} (hp : Pend pe pv po) : KJ 34 [.ref (0, 0) 0] (dsk v du cr op pv po) = some (.dat (.bool true), dsk v du cr op pv po) := by
  refine callT_ev (fn := fn34) rfl rfl ?_
  rcases hp with ⟨rfl, rfl, rfl⟩ | ⟨v2, rfl, rfl⟩ <;> simp [runFun_eq, dsk, dskB]

def lastW : List (Int × List UInt8) → Int → Option (List UInt8)
  | [], _ => none
  | w :: r, i => match lastW r i with
    | some b => some b
    | none => if w.1 = i then some w.2 else none

theorem lastW_snoc : ∀ (l : List (Int × List UInt8)) (w : Int × List UInt8) (i : Int), lastW (l ++ [w]) i = if w.1 = i then some w.2 else lastW l i
  | [], w, i => by simp [lastW]
  | x :: l, w, i => by
    simp only [List.cons_append, lastW, lastW_snoc l w i]
    by_cases h : w.1 = i <;> simp [h]

def cont (du : List (List UInt8)) (pe : List (Int × List UInt8)) (i : Nat) : List UInt8 := (lastW pe i).getD (du.getD i [])

def cntPost (v v2 : Nat) (du : List (List UInt8)) (cr op : Int) (pe : List (Int × List UInt8)) (i : Nat) (q : AEx × St) : Prop :=
  (q.1 = .ret ∧ ∃ b, lastW pe i = some b ∧ hd [4] [] q.2 = some ⟨[(4, .dat (Bs b))], [((0,0), dskB (.rsl (0, 1) v 1 0 du.length) (.rsl (0, 2) v2 2 0 pe.length) cr op), ((0,1), .arr 1 v false (du.map Bs)), ((0,2), .arr 2 v2 false (pe.map pnd))]⟩) ∨
  (q.1 = .exit 0 ∧ lastW pe i = none ∧ hd [0, 1] [] q.2 = some ⟨[(0, .ref (0, 0) 0), (1, .dat (.int .i64 i))], [((0,0), dskB (.rsl (0, 1) v 1 0 du.length) (.rsl (0, 2) v2 2 0 pe.length) cr op), ((0,1), .arr 1 v false (du.map Bs)), ((0,2), .arr 2 v2 false (pe.map pnd))]⟩)

theorem cnt_loop (v v2 : Nat) (du : List (List UInt8)) (cr op : Int) (pe : List (Int × List UInt8)) (i : Nat) (hl : pe.length < 1000000000) : ∀ (m : Nat) (s : St), m ≤ pe.length → lastW pe i = lastW (pe.take m) i →
    hd [0, 1, 5] [] s = some ⟨[(0, .ref (0, 0) 0), (1, .dat (.int .i64 i)), (5, .dat (.int .i64 ((m : Int) - 1)))], [((0,0), dskB (.rsl (0, 1) v 1 0 du.length) (.rsl (0, 2) v2 2 0 pe.length) cr op), ((0,1), .arr 1 v false (du.map Bs)), ((0,2), .arr 2 v2 false (pe.map pnd))]⟩ →
    Ev (loopLim (exec KJ l36_0) s) (cntPost v v2 du cr op pe i) := by
  intro m
  induction m with
  | zero =>
    intro s hm hw hs
    apply ev_loop
    simp [lastW] at hw
    simp [hs, cntPost, hw]
  | succ m ih =>
    intro s hm hw hs
    apply ev_loop
    obtain ⟨w, hwm, hwm'⟩ := get_at' pe (i := m) (by omega)
    rw [List.take_add_one, hwm, show (some w).toList = [w] from rfl, lastW_snoc] at hw
    have e1 : ((m + 1 : Nat) : Int) - 1 = m := by omega
    have e2 : (m : Int) - 1 < 1000000000000000 := by omega
    have e3 : -1000000000000000 < (m : Int) - 1 := by omega
    have e4 : m < pe.length := by omega
    rw [e1] at hs
    by_cases hwi : w.1 = i
    · rw [if_pos hwi] at hw
      simp [hs, dskB, hwm, hwm', hwi, e4, cntPost, hw]
    · rw [if_neg hwi] at hw
      generalize hQ : cntPost v v2 du cr op pe i = Q
      simp [hs, dskB, hwm, hwm', hwi, e2, e3, e4]
      rw [← hQ]
      exact Ev.mono (ih _ (by omega) hw (by simp [dskB])) (fun _ h => h)

theorem content_run {v : Nat} {du : List (List UInt8)} {pe : List (Int × List UInt8)} {cr op : Int} {pv : AVal} {po : List Obj} (hp : Pend pe pv po) (hl : pe.length < 1000000000) {i : Nat} (hi : i < du.length) :
    KJ 36 [.ref (0, 0) 0, .dat (.int .i64 i)] (dsk v du cr op pv po) = some (.dat (Bs (cont du pe i)), dsk v du cr op pv po) := by
  refine callT_ev (fn := fn36) rfl rfl ?_
  obtain ⟨d, hd⟩ := get_at du hi
  have hgd : du.getD i [] = d := by rw [List.getD_eq_getElem?_getD, hd]; rfl
  rcases hp with ⟨rfl, rfl, rfl⟩ | ⟨v2, rfl, rfl⟩
  · simp [runFun_eq, dsk, dskB]
    simp only [ev_bnd_iff]
    apply ev_loop
    simp [hi, hd, cont, lastW]
  · have e2 : (pe.length : Int) - 1 < 1000000000000000 := by omega
    have e3 : -1000000000000000 < (pe.length : Int) - 1 := by omega
    simp [runFun_eq, dsk, dskB, e2, e3]
    simp only [ev_bnd_iff]
    refine Ev.mono (cnt_loop v v2 du cr op pe i hl pe.length _ (Nat.le_refl _) (by simp) (by simp [dskB])) ?_
    rintro ⟨x, s⟩ (⟨rfl, b, e1, hs⟩ | ⟨rfl, e1, hs⟩)
    · dsimp only at hs
      simp only [blkK, Ev_some, seqK, endK_hd hs]
      simp [dskB, cont, e1]
    · simp [hs, dskB, cont, e1, hi, hd, hgd]
end Go.Am
