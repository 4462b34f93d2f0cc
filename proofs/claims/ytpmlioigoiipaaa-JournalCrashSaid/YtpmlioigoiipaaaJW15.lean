/- Walks: a record, appended. -/
import Derived.Test.YtpmlioigoiipaaaJW14
set_option linter.unusedVariables false
set_option linter.unusedSimpArgs false
set_option maxRecDepth 10000
namespace Go.Am
open Go.Proofs

def wrs : List (List UInt8) → Nat → List (Int × List UInt8)
  | [], _ => []
  | s :: r, i => ((i : Int), s) :: wrs r (i + 1)

theorem wrs_len : ∀ (W : List (List UInt8)) (i : Nat), (wrs W i).length = W.length
  | [], _ => rfl
  | s :: r, i => by simp [wrs, wrs_len r]

theorem wrs_snoc : ∀ (W : List (List UInt8)) (s : List UInt8) (i : Nat), wrs (W ++ [s]) i = wrs W i ++ [(((i + W.length : Nat) : Int), s)]
  | [], s, i => by simp [wrs]
  | x :: r, s, i => by simp [wrs, wrs_snoc r s (i + 1)]; omega

theorem wrs_in : ∀ (W : List (List UInt8)) (i n : Nat), i + W.length ≤ n → ∀ w ∈ wrs W i, 0 ≤ w.1 ∧ w.1 < n
  | [], i, n, _, w, h => by simp [wrs] at h
  | s :: r, i, n, hl, w, h => by
    rw [List.length_cons] at hl
    simp only [wrs, List.mem_cons] at h
    rcases h with rfl | h
    · constructor
      · simp
      · simp; omega
    · exact wrs_in r (i + 1) n (by omega) w h

/-- sectors written one behind the other -/
def setAll : List (List UInt8) → Nat → List (List UInt8) → List (List UInt8)
  | du, _, [] => du
  | du, i, s :: r => setAll (du.set i s) (i + 1) r

theorem sync_wrs : ∀ (W : List (List UInt8)) (i : Nat) (du : List (List UInt8)), syncS (wrs W i) du = setAll du i W
  | [], _, _ => rfl
  | s :: r, i, du => by simp [wrs, syncS, setAll, sync_wrs r]

/-- a journal's objects in a store, behind its own records -/
structure JSh where
  rv : AVal
  ro : Store
  did : Id
  pid : Id

def JShOK (rs : List (List UInt8)) (j : JSh) : Prop := (rs = [] ∧ j = ⟨.nils, [], (0, 2), (1, 3)⟩) ∨ ∃ vr, j = ⟨.rsl (0, 2) vr 1 0 rs.length, [((0, 2), .arr 1 vr false (rs.map Bs))], (0, 3), (1, 4)⟩

def jouA (recs : AVal) (next ep : Nat) (cr op : Int) : Obj := .box [.ref (0, 1) 0, recs, .dat (.int .i64 next), .dat (.int .u32 ep), .dat (.int .i64 cr), .dat (.int .i64 op)]

def PendI (pid : Id) (pe : List (Int × List UInt8)) (pv : AVal) (ps : Store) : Prop :=
  (pv = .nils ∧ ps = [] ∧ pe = []) ∨ ∃ v2, pv = .rsl pid v2 2 0 pe.length ∧ ps = [(pid, .arr 2 v2 false (pe.map pnd))]

def jst (j : JSh) (v : Nat) (du : List (List UInt8)) (cr op : Int) (next ep : Nat) (pv : AVal) (ps : Store) : Store :=
  ((0, 0), jouA j.rv next ep cr op) :: ((0, 1), dskB (.rsl j.did v 1 0 du.length) pv cr op) :: (j.ro ++ (j.did, .arr 1 v false (du.map Bs)) :: ps)

def appPost (j : JSh) (v : Nat) (du : List (List UInt8)) (cr op : Int) (next ep : Nat) (b : List UInt8) (W : List (List UInt8)) (q : AEx × St) : Prop := q.1 = .exit 0 ∧ ∃ pv ps, PendI j.pid (wrs W next) pv ps ∧
  hd [0, 1, 5] [] q.2 = some ⟨[(0, .ref (0, 0) 0), (1, .dat (Bs b)), (5, .dat (.sl (W.map Bs)))], jst j v du cr op next ep pv ps⟩

theorem app_loop {rs : List (List UInt8)} {j : JSh} (hj : JShOK rs j) (v : Nat) (du : List (List UInt8)) (cr op : Int) (next ep : Nat) (b : List UInt8) (hdl : du.length ≤ 4096) :
    ∀ (rest pre : List (List UInt8)) (pv : AVal) (ps : Store) (s : St), (∀ d ∈ rest, d.length = 64) → next + pre.length + rest.length ≤ du.length → PendI j.pid (wrs pre next) pv ps →
    hd [0, 1, 5, 65, 66, 67] [0, 1, 5, 65] s = some ⟨[(0, .ref (0, 0) 0), (1, .dat (Bs b)), (5, .dat (.sl ((pre ++ rest).map Bs))), (65, .dat (.sl ((pre ++ rest).map Bs))), (66, .dat (.int .i64 (pre ++ rest).length)), (67, .dat (.int .i64 pre.length))], jst j v du cr op next ep pv ps⟩ →
    Ev (loopLim (exec KJ l13_0) s) (appPost j v du cr op next ep b (pre ++ rest)) := by
  intro rest
  induction rest with
  | nil =>
    intro pre pv ps s h64 hle hp hs
    apply ev_loop
    rcases hj with ⟨rfl, rfl⟩ | ⟨vr, rfl⟩ <;> rcases hp with ⟨rfl, rfl, h0⟩ | ⟨v2, rfl, rfl⟩
    · simp [hs, jst, dskB, jouA]
      exact ⟨rfl, _, _, .inl ⟨rfl, rfl, by simpa using h0⟩, by simp [jst, dskB, jouA]⟩
    · simp [hs, jst, dskB, jouA]
      exact ⟨rfl, _, _, .inr ⟨v2, rfl, rfl⟩, by simp [jst, dskB, jouA]⟩
    · simp [hs, jst, dskB, jouA]
      exact ⟨rfl, _, _, .inl ⟨rfl, rfl, by simpa using h0⟩, by simp [jst, dskB, jouA]⟩
    · simp [hs, jst, dskB, jouA]
      exact ⟨rfl, _, _, .inr ⟨v2, rfl, rfl⟩, by simp [jst, dskB, jouA]⟩
  | cons d rest ih =>
    intro pre pv ps s h64 hle hp hs
    apply ev_loop
    rw [List.length_cons] at hle
    have hx : Ix pre.length := by unfold Ix; omega
    have hd64 := h64 d (by simp)
    have ha1 : (next : Int) + pre.length < 1000000000000000 := by omega
    have ha2 : -1000000000000000 < (next : Int) + pre.length := by omega
    have hwl := wrs_len pre next
    have e1 : pre ++ d :: rest = (pre ++ [d]) ++ rest := by simp
    rw [e1]
    have ih2 := ih (pre ++ [d])
    rw [wrs_snoc] at ih2
    generalize hQ : appPost j v du cr op next ep b (pre ++ [d] ++ rest) = Q at ih2 ⊢
    rcases hp with ⟨rfl, rfl, h0⟩ | ⟨v2, rfl, rfl⟩
    · obtain ⟨v3, hw⟩ := write_run (v := v) (du := du) (cr := cr) (op := op) (pe := []) (.inl ⟨rfl, rfl, rfl⟩) (by simp) (i := next + pre.length) (by omega) hd64
      rw [h0] at ih2
      simp [dsk, dskB] at hw
      rcases hj with ⟨rfl, rfl⟩ | ⟨vr, rfl⟩
      · simp [hs, jst, dskB, jouA, hx, ha1, ha2, hw]
        refine Ev.mono (ih2 _ _ _ (fun x hx => h64 x (by simp [hx])) (by simp; omega) (.inr ⟨v3, rfl, rfl⟩) (by simp [jst, dskB, jouA])) (fun _ h => h)
      · simp [hs, jst, dskB, jouA, hx, ha1, ha2, hw]
        refine Ev.mono (ih2 _ _ _ (fun x hx => h64 x (by simp [hx])) (by simp; omega) (.inr ⟨v3, rfl, rfl⟩) (by simp [jst, dskB, jouA])) (fun _ h => h)
    · obtain ⟨v3, hw⟩ := write_run (v := v) (du := du) (cr := cr) (op := op) (pe := wrs pre next) (.inr ⟨v2, rfl, rfl⟩) (by omega) (i := next + pre.length) (by omega) hd64
      simp [dsk, dskB] at hw
      rcases hj with ⟨rfl, rfl⟩ | ⟨vr, rfl⟩
      · simp [hs, jst, dskB, jouA, hx, ha1, ha2, hw]
        refine Ev.mono (ih2 _ _ _ (fun x hx => h64 x (by simp [hx])) (by simp; omega) (.inr ⟨v3, rfl, rfl⟩) (by simp [jst, dskB, jouA])) (fun _ h => h)
      · simp [hs, jst, dskB, jouA, hx, ha1, ha2, hw]
        refine Ev.mono (ih2 _ _ _ (fun x hx => h64 x (by simp [hx])) (by simp; omega) (.inr ⟨v3, rfl, rfl⟩) (by simp [jst, dskB, jouA])) (fun _ h => h)
end Go.Am
