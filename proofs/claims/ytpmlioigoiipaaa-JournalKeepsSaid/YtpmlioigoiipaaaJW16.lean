/- Walks: a record, appended. -/
import Derived.Test.YtpmlioigoiipaaaJW15
set_option linter.unusedVariables false
set_option linter.unusedSimpArgs false
set_option maxRecDepth 10000
namespace Go.Am
open Go.Proofs

theorem setAll_len : ∀ (W : List (List UInt8)) (du : List (List UInt8)) (i : Nat), (setAll du i W).length = du.length
  | [], _, _ => rfl
  | s :: r, du, i => by rw [setAll, setAll_len r]; simp

theorem jvalid_a {rv : AVal} {next ep : Nat} {jcr jop cr op : Int} {v : Nat} {du : List (List UInt8)} :
    KJ 39 [.ref (0, 0) 0] [jouA .nils next ep jcr jop, dskB (.rsl (0, 2) v 1 0 du.length) .nils cr op, .arr 1 v false (du.map Bs)] = some (.dat (.bool true), [jouA .nils next ep jcr jop, dskB (.rsl (0, 2) v 1 0 du.length) .nils cr op, .arr 1 v false (du.map Bs)]) :=
  callT_ev (fn := fn39) rfl rfl (by simp [runFun_eq, jouA, dskB])
theorem jvalid_b {vr : Nat} {rs : List (List UInt8)} {next ep : Nat} {jcr jop cr op : Int} {v : Nat} {du : List (List UInt8)} :
    KJ 39 [.ref (0, 0) 0] [jouA (.rsl (0, 2) vr 1 0 rs.length) next ep jcr jop, dskB (.rsl (0, 3) v 1 0 du.length) .nils cr op, .arr 1 vr false (rs.map Bs), .arr 1 v false (du.map Bs)] =
      some (.dat (.bool true), [jouA (.rsl (0, 2) vr 1 0 rs.length) next ep jcr jop, dskB (.rsl (0, 3) v 1 0 du.length) .nils cr op, .arr 1 vr false (rs.map Bs), .arr 1 v false (du.map Bs)]) :=
  callT_ev (fn := fn39) rfl rfl (by simp [runFun_eq, jouA, dskB])

theorem app_arith {W du : List (List UInt8)} {next : Nat} (hn : next ≤ du.length) (hdl : du.length ≤ 4096) (hf : next + W.length ≤ du.length) :
    (du.length : Int) - next < 1000000000000000 ∧ -1000000000000000 < (du.length : Int) - next ∧ ¬ (du.length : Int) - next < W.length ∧ (next : Int) + W.length < 1000000000000000 ∧ -1000000000000000 < (next : Int) + W.length := by omega

theorem imageB_64 (p : List UInt8) (n e : Nat) : ∀ d ∈ imageB p n e, d.length = 64 := by
  intro d hd
  simp only [imageB, List.mem_map] at hd
  obtain ⟨j, _, rfl⟩ := hd
  simp [secB, sumB, le2]
  have : (chunk (sealB p) j).length ≤ 52 := by simp [chunk]; omega
  omega

theorem append_a (v : Nat) (du : List (List UInt8)) (cr op : Int) (next ep : Nat) (b : List UInt8) (hdl : du.length ≤ 4096) (hn : next ≤ du.length) (hep : ep < 4294967296) (hb : b.length < 100000)
    (hf : next + (imageB b 0 ep).length ≤ du.length) :
    KJ 13 [.ref (0, 0) 0, .dat (Bs b)] [jouA .nils next ep cr op, dskB (.rsl (0, 2) v 1 0 du.length) .nils cr op, .arr 1 v false (du.map Bs)] =
      some (.dat (.int .i64 0), [jouA (.rsl (0, 3) 0 1 0 1) (next + (imageB b 0 ep).length) ep cr op, dskB (.rsl (0, 2) v 1 0 du.length) .nils cr op, .arr 1 v false ((setAll du next (imageB b 0 ep)).map Bs), .arr 1 0 false [Bs b]]) := by
  refine callT_ev (fn := fn13) rfl rfl ?_
  have hv := jvalid_a (rv := .nils) (next := next) (ep := ep) (jcr := cr) (jop := op) (cr := cr) (op := op) (v := v) (du := du)
  have hi := image_run b 0 ep (by omega) (by omega) hep
  have h64 := imageB_64 b 0 ep
  have hc := clone_run b (by omega)
  have hlp := fun s h => app_loop (rs := []) (j := ⟨.nils, [], (0, 2), (1, 3)⟩) (.inl ⟨rfl, rfl⟩) v du cr op next ep b hdl (imageB b 0 ep) [] .nils [] s h64 (by simp; omega) (.inl ⟨rfl, rfl, rfl⟩) h
  have hin := wrs_in (imageB b 0 ep) next du.length hf
  have hwl := wrs_len (imageB b 0 ep) next
  have hsw := sync_wrs (imageB b 0 ep) next du
  generalize imageB b 0 ep = W at *
  obtain ⟨a1, a2, a3, a4, a5⟩ := app_arith hn hdl hf
  simp [jouA, dskB] at hv hi
  simp [runFun_eq, jouA, dskB, hv, hi, a1, a2, a3]
  simp only [ev_bnd_iff]
  refine Ev.mono (hlp _ (by simp [jst, jouA, dskB])) ?_
  rintro ⟨_, s⟩ ⟨rfl, pv, ps, hp, hs⟩
  dsimp only at hs
  rw [List.nil_append] at hs hp
  rcases hp with ⟨rfl, rfl, h0⟩ | ⟨v2, rfl, rfl⟩
  · have hsy := sync_none v du cr op
    rw [h0] at hsw
    simp [dsk, dskB] at hsy
    simp [syncS] at hsw
    simp [hs, jst, dskB, jouA, hsy, hc, a4, a5, ← hsw]
  · have hsy := sync_run v v2 du cr op (wrs W next) hin (by omega)
    simp [dsk, dskB, hsw, syncS_len] at hsy
    simp [hs, jst, dskB, jouA, hsy, hc, a4, a5, setAll_len]

theorem append_b (v vr : Nat) (rs : List (List UInt8)) (du : List (List UInt8)) (cr op : Int) (next ep : Nat) (b : List UInt8) (hdl : du.length ≤ 4096) (hn : next ≤ du.length) (hep : ep < 4294967296) (hb : b.length < 100000) (hrs : rs.length < 100000)
    (hf : next + (imageB b rs.length ep).length ≤ du.length) :
    KJ 13 [.ref (0, 0) 0, .dat (Bs b)] [jouA (.rsl (0, 2) vr 1 0 rs.length) next ep cr op, dskB (.rsl (0, 3) v 1 0 du.length) .nils cr op, .arr 1 vr false (rs.map Bs), .arr 1 v false (du.map Bs)] =
      some (.dat (.int .i64 0), [jouA (.rsl (0, 2) (vr + 1) 1 0 (rs.length + 1)) (next + (imageB b rs.length ep).length) ep cr op, dskB (.rsl (0, 3) v 1 0 du.length) .nils cr op, .arr 1 (vr + 1) false ((rs ++ [b]).map Bs), .arr 1 v false ((setAll du next (imageB b rs.length ep)).map Bs)]) := by
  refine callT_ev (fn := fn13) rfl rfl ?_
  have hv := jvalid_b (vr := vr) (rs := rs) (next := next) (ep := ep) (jcr := cr) (jop := op) (cr := cr) (op := op) (v := v) (du := du)
  have hi := image_run b rs.length ep (by omega) (by omega) hep
  have h64 := imageB_64 b rs.length ep
  have hc := clone_run b (by omega)
  have hlp := fun s h => app_loop (rs := rs) (j := ⟨.rsl (0, 2) vr 1 0 rs.length, [((0, 2), .arr 1 vr false (rs.map Bs))], (0, 3), (1, 4)⟩) (.inr ⟨vr, rfl⟩) v du cr op next ep b hdl (imageB b rs.length ep) [] .nils [] s h64 (by simp; omega) (.inl ⟨rfl, rfl, rfl⟩) h
  have hin := wrs_in (imageB b rs.length ep) next du.length hf
  have hwl := wrs_len (imageB b rs.length ep) next
  have hsw := sync_wrs (imageB b rs.length ep) next du
  have hm : (rs.length : Int) % 4294967296 = rs.length := by omega
  have hr : (rs.length + 1) * 25 ≤ 1099511627776 := by omega
  generalize imageB b rs.length ep = W at *
  obtain ⟨a1, a2, a3, a4, a5⟩ := app_arith hn hdl hf
  simp [jouA, dskB] at hv hi
  simp [runFun_eq, jouA, dskB, hv, hi, a1, a2, a3, hm]
  simp only [ev_bnd_iff]
  refine Ev.mono (hlp _ (by simp [jst, jouA, dskB])) ?_
  rintro ⟨_, s⟩ ⟨rfl, pv, ps, hp, hs⟩
  dsimp only at hs
  rw [List.nil_append] at hs hp
  rcases hp with ⟨rfl, rfl, h0⟩ | ⟨v2, rfl, rfl⟩
  · have hsy := sync_none v du cr op
    rw [h0] at hsw
    simp [dsk, dskB] at hsy
    simp [syncS] at hsw
    simp [hs, jst, dskB, jouA, hsy, hc, a4, a5, hr, ← hsw]
  · have hsy := sync_run v v2 du cr op (wrs W next) hin (by omega)
    simp [dsk, dskB, hsw, syncS_len] at hsy
    simp [hs, jst, dskB, jouA, hsy, hc, a4, a5, hr, setAll_len]

theorem append_full_a (v : Nat) (du : List (List UInt8)) (cr op : Int) (next ep : Nat) (b : List UInt8) (hdl : du.length ≤ 4096) (hn : next ≤ du.length) (hep : ep < 4294967296) (hb : b.length < 100000)
    (hf : ¬ next + (imageB b 0 ep).length ≤ du.length) :
    ∃ os', KJ 13 [.ref (0, 0) 0, .dat (Bs b)] [jouA .nils next ep cr op, dskB (.rsl (0, 2) v 1 0 du.length) .nils cr op, .arr 1 v false (du.map Bs)] = some (.dat (.int .i64 24), os') ∧ os' = [jouA .nils next ep cr op, dskB (.rsl (0, 2) v 1 0 du.length) .nils cr op, .arr 1 v false (du.map Bs)] := by
  refine ⟨_, callT_ev (fn := fn13) rfl rfl ?_, rfl⟩
  have hv := jvalid_a (rv := .nils) (next := next) (ep := ep) (jcr := cr) (jop := op) (cr := cr) (op := op) (v := v) (du := du)
  have hi := image_run b 0 ep (by omega) (by omega) hep
  generalize imageB b 0 ep = W at *
  have a1 : (du.length : Int) - next < 1000000000000000 := by omega
  have a2 : -1000000000000000 < (du.length : Int) - next := by omega
  have a3 : (du.length : Int) - next < W.length := by omega
  simp [jouA, dskB] at hv hi
  simp [runFun_eq, jouA, dskB, hv, hi, a1, a2, a3]

theorem append_full_b (v vr : Nat) (rs : List (List UInt8)) (du : List (List UInt8)) (cr op : Int) (next ep : Nat) (b : List UInt8) (hdl : du.length ≤ 4096) (hn : next ≤ du.length) (hep : ep < 4294967296) (hb : b.length < 100000) (hrs : rs.length < 100000)
    (hf : ¬ next + (imageB b rs.length ep).length ≤ du.length) :
    ∃ os', KJ 13 [.ref (0, 0) 0, .dat (Bs b)] [jouA (.rsl (0, 2) vr 1 0 rs.length) next ep cr op, dskB (.rsl (0, 3) v 1 0 du.length) .nils cr op, .arr 1 vr false (rs.map Bs), .arr 1 v false (du.map Bs)] = some (.dat (.int .i64 24), os') ∧
      os' = [jouA (.rsl (0, 2) vr 1 0 rs.length) next ep cr op, dskB (.rsl (0, 3) v 1 0 du.length) .nils cr op, .arr 1 vr false (rs.map Bs), .arr 1 v false (du.map Bs)] := by
  refine ⟨_, callT_ev (fn := fn13) rfl rfl ?_, rfl⟩
  have hv := jvalid_b (vr := vr) (rs := rs) (next := next) (ep := ep) (jcr := cr) (jop := op) (cr := cr) (op := op) (v := v) (du := du)
  have hi := image_run b rs.length ep (by omega) (by omega) hep
  have hm : (rs.length : Int) % 4294967296 = rs.length := by omega
  generalize imageB b rs.length ep = W at *
  have a1 : (du.length : Int) - next < 1000000000000000 := by omega
  have a2 : -1000000000000000 < (du.length : Int) - next := by omega
  have a3 : (du.length : Int) - next < W.length := by omega
  simp [jouA, dskB] at hv hi
  simp [runFun_eq, jouA, dskB, hv, hi, a1, a2, a3, hm]

theorem append_crash (v vr : Nat) (rs : List (List UInt8)) (du : List (List UInt8)) (jcr jop cr op : Int) (next ep : Nat) (b : List UInt8) (h : ¬ cr = jcr) :
    KJ 13 [.ref (0, 0) 0, .dat (Bs b)] [jouA (.rsl (0, 2) vr 1 0 rs.length) next ep jcr jop, dskB (.rsl (0, 3) v 1 0 du.length) .nils cr op, .arr 1 vr false (rs.map Bs), .arr 1 v false (du.map Bs)] =
      some (.dat (.int .i64 25), [jouA (.rsl (0, 2) vr 1 0 rs.length) next ep jcr jop, dskB (.rsl (0, 3) v 1 0 du.length) .nils cr op, .arr 1 vr false (rs.map Bs), .arr 1 v false (du.map Bs)]) := by
  refine callT_ev (fn := fn13) rfl rfl ?_
  have hv := jvalid_b (vr := vr) (rs := rs) (next := next) (ep := ep) (jcr := jcr) (jop := jop) (cr := cr) (op := op) (v := v) (du := du)
  simp [jouA, dskB] at hv
  simp [runFun_eq, jouA, dskB, hv, h]

theorem len_run (v vr : Nat) (rs : List (List UInt8)) (du : List (List UInt8)) (jcr jop cr op : Int) (next ep : Nat) :
    KJ 32 [.ref (0, 0) 0] [jouA (.rsl (0, 2) vr 1 0 rs.length) next ep jcr jop, dskB (.rsl (0, 3) v 1 0 du.length) .nils cr op, .arr 1 vr false (rs.map Bs), .arr 1 v false (du.map Bs)] =
      some (.dat (.int .i64 rs.length), [jouA (.rsl (0, 2) vr 1 0 rs.length) next ep jcr jop, dskB (.rsl (0, 3) v 1 0 du.length) .nils cr op, .arr 1 vr false (rs.map Bs), .arr 1 v false (du.map Bs)]) := by
  refine callT_ev (fn := fn32) rfl rfl ?_
  have hv := jvalid_b (vr := vr) (rs := rs) (next := next) (ep := ep) (jcr := jcr) (jop := jop) (cr := cr) (op := op) (v := v) (du := du)
  simp [jouA, dskB] at hv
  simp [runFun_eq, jouA, dskB, hv]

theorem crash_none (v : Nat) (du : List (List UInt8)) (cr op : Int) (h1 : 0 ≤ cr) (h2 : cr < 1000000) : KJ 22 [.ref (0, 0) 0, .dat (.sl [])] (dsk v du cr op .nils []) = some (.dat (.int .i64 0), dsk v du (cr + 1) op .nils []) := by
  refine callT_ev (fn := fn22) rfl rfl ?_
  have hv := valid_run (v := v) (du := du) (cr := cr) (op := op) (.inl ⟨rfl, rfl, rfl⟩)
  have a1 : cr + 1 < 1000000000000000 := by omega
  have a2 : -1000000000000000 < cr + 1 := by omega
  simp [dsk, dskB] at hv
  simp [runFun_eq, dsk, dskB, hv]
  simp only [ev_bnd_iff]
  apply ev_loop
  simp
  simp only [ev_bnd_iff]
  apply ev_loop
  simp [a1, a2]
end Go.Am
