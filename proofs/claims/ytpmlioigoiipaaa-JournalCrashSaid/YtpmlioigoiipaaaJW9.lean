/- Walks: clones, new disks, contents, records. -/
import Derived.Test.YtpmlioigoiipaaaJW8
set_option linter.unusedVariables false
set_option linter.unusedSimpArgs false
set_option maxRecDepth 10000
namespace Go.Am
open Go.Proofs

theorem callT_split {tbl : FuncId → Option AFun} {f : FuncId} {fn : AFun} (hf : tbl f = some fn) {i : Nat} (hs : fn.split = some i) {args : List AVal} {os : List Obj} {r : AVal × List Obj} (ha : args[i]? = some (.dat (.sl [])))
    (h1 : Ev (runFun (callT tbl) fn (args.set i (.emp true)) os) (· = r)) (h2 : Ev (runFun (callT tbl) fn (args.set i (.emp false)) os) (· = r)) : callT tbl f args os = some r :=
  callT_of hf (by simp only [runS, hs, ha, h1.eq, h2.eq, if_true])
theorem callT_split' {tbl : FuncId → Option AFun} {f : FuncId} {fn : AFun} (hf : tbl f = some fn) {i : Nat} (hs : fn.split = some i) {args : List AVal} {os : List Obj} {r : AVal × List Obj} {d : Dat} {l : List Dat} (ha : args[i]? = some (.dat (.sl (d :: l))))
    (h1 : Ev (runFun (callT tbl) fn args os) (· = r)) : callT tbl f args os = some r :=
  callT_of hf (by simp only [runS, hs, ha, h1.eq])

theorem clone_run (l : List UInt8) (hl : l.length < 100000000000) : KJ 38 [.dat (.sl (l.map B))] [] = some (.dat (.sl (l.map B)), []) := by
  cases l with
  | nil =>
    refine callT_split (fn := { fn38 with split := some 0 }) rfl (i := 0) rfl rfl ?_ ?_
    · simp [runFun_eq]
    · simp [runFun_eq]
  | cons b l =>
    refine callT_split' (fn := { fn38 with split := some 0 }) rfl (i := 0) rfl (d := B b) (l := l.map B) rfl ?_
    rw [List.length_cons] at hl
    have hr : (l.length + 1) * 2 ≤ 1099511627776 := by omega
    simp [runFun_eq, hr]

def listsEq : List (List UInt8) → List (List UInt8) → Bool
  | [], [] => true
  | a :: r, b :: s => a == b && listsEq r s
  | _, _ => false

theorem listsEq_iff : ∀ (a b : List (List UInt8)), listsEq a b = true ↔ a = b
  | [], [] => by simp [listsEq]
  | a :: r, b :: s => by simp [listsEq, listsEq_iff r s]
  | [], _ :: _ => by simp [listsEq]
  | _ :: _, [] => by simp [listsEq]


def listsPost (t : Bool) (q : AEx × St) : Prop := (q.1 = .ret ∧ t = false ∧ hd [4] [] q.2 = some ⟨[(4, .dat (.bool false))], []⟩) ∨ (q.1 = .exit 0 ∧ t = true ∧ hd [] [] q.2 = some ⟨[], []⟩)

theorem lists_loop : ∀ (ra rb pre : List (List UInt8)) (s : St), ra.length = rb.length → pre.length + ra.length < 1000000000 →
    hd [0, 1, 5] [] s = some ⟨[(0, .dat (.sl ((pre ++ ra).map Bs))), (1, .dat (.sl ((pre ++ rb).map Bs))), (5, .dat (.int .i64 pre.length))], []⟩ →
    Ev (loopLim (exec KJ l12_0) s) (listsPost (ra == rb)) := by
  intro ra
  induction ra with
  | nil =>
    intro rb pre s hl hn hs
    cases rb with
    | cons _ _ => simp at hl
    | nil =>
      apply ev_loop
      simp [hs, listsPost]
  | cons a ra ih =>
    intro rb pre s hl hn hs
    cases rb with
    | nil => simp at hl
    | cons b rb =>
      apply ev_loop
      rw [List.length_cons] at hn
      have hx : Ix pre.length := by unfold Ix; omega
      have h1 := same_run a b
      by_cases hab : a = b
      · subst hab
        have e : ((a :: ra) == (a :: rb)) = (ra == rb) := by simp
        rw [e]
        generalize hQ : listsPost (ra == rb) = Q
        simp [hs, hx, h1]
        rw [← hQ]
        refine Ev.mono (ih rb (pre ++ [a]) _ (by simpa using hl) (by simp; omega) (by simp)) (fun _ h => h)
      · have e : ((a :: ra) == (b :: rb)) = false := by simp [hab]
        rw [e]
        have hab' : (a == b) = false := by simp [hab]
        simp [hs, hx, h1, hab', listsPost]

theorem lists_run (a b : List (List UInt8)) (hl : a.length < 1000000000) : KJ 12 [.dat (.sl (a.map Bs)), .dat (.sl (b.map Bs))] [] = some (.dat (.bool (a == b)), []) := by
  refine callT_ev (fn := fn12) rfl rfl ?_
  by_cases h : a.length = b.length
  · simp [runFun_eq, h]
    simp only [ev_bnd_iff]
    refine Ev.mono (lists_loop a b [] _ h (by simpa using hl) (by simp)) ?_
    rintro ⟨x, s⟩ (⟨rfl, e, hs⟩ | ⟨rfl, e, hs⟩)
    · dsimp only at hs
      simp only [blkK, Ev_some, seqK, endK_hd hs, e]
      simp
    · simp at hs
      simp [hs, e]
  · have e : (a == b) = false := by
      apply Bool.eq_false_iff.2
      intro hab
      simp at hab
      exact h (by rw [hab])
    rw [e]
    simp [runFun_eq, h]

def zeroS : List UInt8 := List.replicate 64 0

def ndPost (n : Nat) (q : AEx × St) : Prop := q.1 = .exit 0 ∧ ∃ v,
  hd [4] [] q.2 = some ⟨[(4, .ref (5, 0) 0)], [((5, 0), dskB (.rsl (5, 1) v 1 0 n) .nils 0 0), ((5, 1), .arr 1 v false ((List.replicate n zeroS).map Bs))]⟩

theorem nd_loop (n : Nat) (hn : n ≤ 4096) : ∀ (m j v : Nat) (s : St), j + m = n → 1 ≤ j →
    hd [4, 13, 14] [4] s = some ⟨[(4, .ref (5, 0) 0), (13, .dat (.int .i64 n)), (14, .dat (.int .i64 j))], [((5, 0), dskB (.rsl (5, 1) v 1 0 j) .nils 0 0), ((5, 1), .arr 1 v false ((List.replicate j zeroS).map Bs))]⟩ →
    Ev (loopLim (exec KJ l9_0) s) (ndPost n) := by
  intro m
  induction m with
  | zero =>
    intro j v s hj h1 hs
    apply ev_loop
    have : j = n := by omega
    subst this
    simp [hs, ndPost, dskB]
  | succ m ih =>
    intro j v s hj h1 hs
    apply ev_loop
    have hlt : j < n := by omega
    have hx : Ix j := by unfold Ix; omega
    have hr : (j + 1) * 25 ≤ 1099511627776 := by omega
    generalize hQ : ndPost n = Q
    simp [hs, dskB, hlt, hx, hr, -List.reduceReplicate]
    rw [← hQ]
    refine Ev.mono (ih (j + 1) (v + 1) _ (by omega) (by omega) ?_) (fun _ h => h)
    simp [dskB, -List.reduceReplicate, List.replicate_succ', zeroS]

theorem newDisk_run (n : Nat) (h1 : 1 ≤ n) (h2 : n ≤ 4096) : ∃ v, KJ 9 [.dat (.int .i64 n)] [] = some (.tup [.ref (0, 0) 0, .dat (.int .i64 0)], dsk v (List.replicate n zeroS) 0 0 .nils []) := by
  have h3 : ¬ (n : Int) < 1 := by omega
  have h3' : ¬ n < 1 := by omega
  have h4 : ¬ (4096 : Int) < n := by omega
  have h5 : 0 < n := by omega
  have key : Ev (runFun KJ fn9 [.dat (.int .i64 n)] []) fun r => ∃ v, r = (.tup [.ref (0, 0) 0, .dat (.int .i64 0)], dsk v (List.replicate n zeroS) 0 0 .nils []) := by
    simp [runFun_eq, h3, h4, h5]
    simp only [ev_bnd_iff]
    apply ev_loop
    generalize hQ : ndPost n = Q
    simp [h5, -List.reduceReplicate]
    refine Ev.mono (nd_loop n h2 (n - 1) 1 0 _ (by omega) (by omega) (by simp [dskB, zeroS, -List.reduceReplicate])) ?_
    rintro ⟨_, s⟩ ⟨rfl, v, hs⟩
    simp at hs
    simp [hs, dskB, dsk]
  obtain ⟨r, hr, v, rfl⟩ := key
  exact ⟨v, callT_ev (fn := fn9) rfl rfl ⟨_, hr, rfl⟩⟩

end Go.Am
