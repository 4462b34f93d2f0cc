/- Walks: contents, records. -/
import Derived.Test.YtpmlioigoiipaaaJW9
set_option linter.unusedVariables false
set_option linter.unusedSimpArgs false
set_option maxRecDepth 10000
namespace Go.Am
open Go.Proofs

def ctsPost (v : Nat) (du : List (List UInt8)) (cr op : Int) (n : Nat) (all : List (List UInt8)) (q : AEx × St) : Prop := q.1 = .exit 0 ∧ ∃ v',
  hd [6] [] q.2 = some ⟨[(6, .rsl (7, 0) v' 1 0 n)], [((0, 0), dskB (.rsl (0, 1) v 1 0 du.length) .nils cr op), ((0, 1), .arr 1 v false (du.map Bs)), ((7, 0), .arr 1 v' false (all.map Bs))]⟩

theorem cts_loop (v : Nat) (du : List (List UInt8)) (cr op : Int) (n : Nat) (hn : n ≤ du.length) (h64 : ∀ d ∈ du, d.length = 64) (hl : du.length < 1000000) : ∀ (m j v' : Nat) (s : St), j + m = n →
    hd [0, 1, 6, 7] [0, 6] s = some ⟨[(0, .ref (0, 0) 0), (1, .dat (.int .i64 n)), (6, .rsl (7, 0) v' 1 0 j), (7, .dat (.int .i64 j))], [((0, 0), dskB (.rsl (0, 1) v 1 0 du.length) .nils cr op), ((0, 1), .arr 1 v false (du.map Bs)), ((7, 0), .arr 1 v' false ((du.take j).map Bs))]⟩ →
    Ev (loopLim (exec KJ l11_0) s) (ctsPost v du cr op n (du.take n)) := by
  intro m
  induction m with
  | zero =>
    intro j v' s hj hs
    apply ev_loop
    have : j = n := by omega
    subst this
    simp [hs, ctsPost]
  | succ m ih =>
    intro j v' s hj hs
    apply ev_loop
    have hlt : j < n := by omega
    have hx : Ix j := by unfold Ix; omega
    have hr : (j + 1) * 25 ≤ 1099511627776 := by omega
    obtain ⟨d, hd, hd'⟩ := get_at' du (i := j) (by omega)
    have hread := read_run (v := v) (du := du) (cr := cr) (op := op) (pe := []) (.inl ⟨rfl, rfl, rfl⟩) (by simp) h64 (by simp) (i := j) (by omega)
    have hc : cont du [] j = d := by simp [cont, lastW, hd]
    rw [hc] at hread
    have hdl := h64 d (List.mem_of_getElem? hd)
    have hml : min j du.length = j := by omega
    generalize hQ : ctsPost v du cr op n (du.take n) = Q
    simp [dsk, dskB] at hread
    simp [hs, dskB, hlt, hx, hr, hread, hdl, hml]
    rw [← hQ]
    refine Ev.mono (ih (j + 1) (v' + 1) _ (by omega) ?_) (fun _ h => h)
    simp [dskB, List.take_add_one, hd]

theorem contents_run (v : Nat) (du : List (List UInt8)) (cr op : Int) (n : Nat) (hn : n = du.length) (h64 : ∀ d ∈ du, d.length = 64) (hl : du.length < 1000000) :
    KJ 11 [.ref (0, 0) 0, .dat (.int .i64 n)] (dsk v du cr op .nils []) = some (.tup [.dat (.sl (du.map Bs)), .dat (.bool true)], dsk v du cr op .nils []) := by
  refine callT_ev (fn := fn11) rfl rfl ?_
  simp [runFun_eq, dsk, dskB]
  simp only [ev_bnd_iff]
  refine Ev.mono (cts_loop v du cr op n (by omega) h64 hl n 0 0 _ (by omega) (by simp [dskB])) ?_
  rintro ⟨_, s⟩ ⟨rfl, v', hs⟩
  have ht : du.take n = du := by rw [hn]; exact List.take_length
  rw [ht] at hs
  simp at hs
  simp [hs, dskB, hn]
end Go.Am
