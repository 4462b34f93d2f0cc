/- Parts of the proofs of the journal's statements, joined: JW16 JD1 JD2 JD3 JD4 JD5 JPlain JPlain2 JD6 JD7 JD8 AmRead AmLaw JLives JTops JActT. -/
import Derived.Test.YtpmlioigoiipaaaP5
import Derived.ChangeArms
import Derived.WideShapes
import Derived.WideKeyArgs
import Derived.JoinedOf
import Derived.OpenShut
import Derived.KernelRfl
import Derived.Test.YtpmlioigoiipaaaRows

/- Walks: a record, appended. -/
set_option linter.unusedVariables false
set_option linter.unusedSimpArgs false
set_option maxRecDepth 10000
namespace Go.Am
open Go.Proofs

theorem setAll_len : ∀ (W : List (List UInt8)) (du : List (List UInt8)) (i : Nat), (setAll du i W).length = du.length
  | [], _, _ => rfl
  | s :: r, du, i => by rw [setAll, setAll_len r]; simp

theorem jvalid_a {rv : AVal} {next ep : Nat} {jcr jop cr op : Int} {v : Nat} {du : List (List UInt8)} :
    KJ 39 [.ref (0, 0) 0] [jouA .nils next ep jcr jop, dskB (.rsl (0, 2) v 1 0 du.length) .nils cr op, .arr 1 v false (du.map Bs)] = some (.dat (.bool true), [jouA .nils next ep jcr jop, dskB (.rsl (0, 2) v 1 0 du.length) .nils cr op, .arr 1 v false (du.map Bs)]) :=
  callT_ev (fn := fn39) rfl rfl (by simp [runFun_eq, jouA, dskB])
theorem jvalid_b {vr : Nat} {rs : List (List UInt8)} {next ep : Nat} {jcr jop cr op : Int} {v : Nat} {du : List (List UInt8)} :
    KJ 39 [.ref (0, 0) 0] [jouA (.rsl (0, 2) vr 1 0 rs.length) next ep jcr jop, dskB (.rsl (0, 3) v 1 0 du.length) .nils cr op, .arr 1 vr false (rs.map Bs), .arr 1 v false (du.map Bs)] =
      some (.dat (.bool true), [jouA (.rsl (0, 2) vr 1 0 rs.length) next ep jcr jop, dskB (.rsl (0, 3) v 1 0 du.length) .nils cr op, .arr 1 vr false (rs.map Bs), .arr 1 v false (du.map Bs)]) :=
  callT_ev (fn := fn39) rfl rfl (by simp [runFun_eq, jouA, dskB])

theorem app_arith {W du : List (List UInt8)} {next : Nat} (hn : next ≤ du.length) (hdl : du.length ≤ 4096) (hf : next + W.length ≤ du.length) :
    (du.length : Int) - next < 1000000000000000 ∧ -1000000000000000 < (du.length : Int) - next ∧ ¬ (du.length : Int) - next < W.length ∧ (next : Int) + W.length < 1000000000000000 ∧ -1000000000000000 < (next : Int) + W.length := by omega

theorem imageB_64 (p : List UInt8) (n e : Nat) : ∀ d ∈ imageB p n e, d.length = 64 := by
  intro d hd
  simp only [imageB, List.mem_map] at hd
  obtain ⟨j, _, rfl⟩ := hd
  simp [secB, sumB, le2]
  have : (chunk (sealB p) j).length ≤ 52 := by simp [chunk]; omega
  omega

theorem append_a (v : Nat) (du : List (List UInt8)) (cr op : Int) (next ep : Nat) (b : List UInt8) (hdl : du.length ≤ 4096) (hn : next ≤ du.length) (hep : ep < 4294967296) (hb : b.length < 100000)
    (hf : next + (imageB b 0 ep).length ≤ du.length) :
    KJ 13 [.ref (0, 0) 0, .dat (Bs b)] [jouA .nils next ep cr op, dskB (.rsl (0, 2) v 1 0 du.length) .nils cr op, .arr 1 v false (du.map Bs)] =
      some (.dat (.int .i64 0), [jouA (.rsl (0, 3) 0 1 0 1) (next + (imageB b 0 ep).length) ep cr op, dskB (.rsl (0, 2) v 1 0 du.length) .nils cr op, .arr 1 v false ((setAll du next (imageB b 0 ep)).map Bs), .arr 1 0 false [Bs b]]) := by
  refine callT_ev (fn := fn13) rfl rfl ?_
  have hv := jvalid_a (rv := .nils) (next := next) (ep := ep) (jcr := cr) (jop := op) (cr := cr) (op := op) (v := v) (du := du)
  have hi := image_run b 0 ep (by omega) (by omega) hep
  have h64 := imageB_64 b 0 ep
  have hc := clone_run b (by omega)
  have hlp := fun s h => app_loop (rs := []) (j := ⟨.nils, [], (0, 2), (1, 3)⟩) (.inl ⟨rfl, rfl⟩) v du cr op next ep b hdl (imageB b 0 ep) [] .nils [] s h64 (by simp; omega) (.inl ⟨rfl, rfl, rfl⟩) h
  have hin := wrs_in (imageB b 0 ep) next du.length hf
  have hwl := wrs_len (imageB b 0 ep) next
  have hsw := sync_wrs (imageB b 0 ep) next du
  generalize imageB b 0 ep = W at *
  obtain ⟨a1, a2, a3, a4, a5⟩ := app_arith hn hdl hf
  simp [jouA, dskB] at hv hi
  simp [runFun_eq, jouA, dskB, hv, hi, a1, a2, a3]
  simp only [ev_bnd_iff]
  refine Ev.mono (hlp _ (by simp [jst, jouA, dskB])) ?_
  rintro ⟨_, s⟩ ⟨rfl, pv, ps, hp, hs⟩
  dsimp only at hs
  rw [List.nil_append] at hs hp
  rcases hp with ⟨rfl, rfl, h0⟩ | ⟨v2, rfl, rfl⟩
  · have hsy := sync_none v du cr op
    rw [h0] at hsw
    simp [dsk, dskB] at hsy
    simp [syncS] at hsw
    simp [hs, jst, dskB, jouA, hsy, hc, a4, a5, ← hsw]
  · have hsy := sync_run v v2 du cr op (wrs W next) hin (by omega)
    simp [dsk, dskB, hsw, syncS_len] at hsy
    simp [hs, jst, dskB, jouA, hsy, hc, a4, a5, setAll_len]

theorem append_b (v vr : Nat) (rs : List (List UInt8)) (du : List (List UInt8)) (cr op : Int) (next ep : Nat) (b : List UInt8) (hdl : du.length ≤ 4096) (hn : next ≤ du.length) (hep : ep < 4294967296) (hb : b.length < 100000) (hrs : rs.length < 100000)
    (hf : next + (imageB b rs.length ep).length ≤ du.length) :
    KJ 13 [.ref (0, 0) 0, .dat (Bs b)] [jouA (.rsl (0, 2) vr 1 0 rs.length) next ep cr op, dskB (.rsl (0, 3) v 1 0 du.length) .nils cr op, .arr 1 vr false (rs.map Bs), .arr 1 v false (du.map Bs)] =
      some (.dat (.int .i64 0), [jouA (.rsl (0, 2) (vr + 1) 1 0 (rs.length + 1)) (next + (imageB b rs.length ep).length) ep cr op, dskB (.rsl (0, 3) v 1 0 du.length) .nils cr op, .arr 1 (vr + 1) false ((rs ++ [b]).map Bs), .arr 1 v false ((setAll du next (imageB b rs.length ep)).map Bs)]) := by
  refine callT_ev (fn := fn13) rfl rfl ?_
  have hv := jvalid_b (vr := vr) (rs := rs) (next := next) (ep := ep) (jcr := cr) (jop := op) (cr := cr) (op := op) (v := v) (du := du)
  have hi := image_run b rs.length ep (by omega) (by omega) hep
  have h64 := imageB_64 b rs.length ep
  have hc := clone_run b (by omega)
  have hlp := fun s h => app_loop (rs := rs) (j := ⟨.rsl (0, 2) vr 1 0 rs.length, [((0, 2), .arr 1 vr false (rs.map Bs))], (0, 3), (1, 4)⟩) (.inr ⟨vr, rfl⟩) v du cr op next ep b hdl (imageB b rs.length ep) [] .nils [] s h64 (by simp; omega) (.inl ⟨rfl, rfl, rfl⟩) h
  have hin := wrs_in (imageB b rs.length ep) next du.length hf
  have hwl := wrs_len (imageB b rs.length ep) next
  have hsw := sync_wrs (imageB b rs.length ep) next du
  have hm : (rs.length : Int) % 4294967296 = rs.length := by omega
  have hr : (rs.length + 1) * 25 ≤ 1099511627776 := by omega
  generalize imageB b rs.length ep = W at *
  obtain ⟨a1, a2, a3, a4, a5⟩ := app_arith hn hdl hf
  simp [jouA, dskB] at hv hi
  simp [runFun_eq, jouA, dskB, hv, hi, a1, a2, a3, hm]
  simp only [ev_bnd_iff]
  refine Ev.mono (hlp _ (by simp [jst, jouA, dskB])) ?_
  rintro ⟨_, s⟩ ⟨rfl, pv, ps, hp, hs⟩
  dsimp only at hs
  rw [List.nil_append] at hs hp
  rcases hp with ⟨rfl, rfl, h0⟩ | ⟨v2, rfl, rfl⟩
  · have hsy := sync_none v du cr op
    rw [h0] at hsw
    simp [dsk, dskB] at hsy
    simp [syncS] at hsw
    simp [hs, jst, dskB, jouA, hsy, hc, a4, a5, hr, ← hsw]
  · have hsy := sync_run v v2 du cr op (wrs W next) hin (by omega)
    simp [dsk, dskB, hsw, syncS_len] at hsy
    simp [hs, jst, dskB, jouA, hsy, hc, a4, a5, hr, setAll_len]

theorem append_full_a (v : Nat) (du : List (List UInt8)) (cr op : Int) (next ep : Nat) (b : List UInt8) (hdl : du.length ≤ 4096) (hn : next ≤ du.length) (hep : ep < 4294967296) (hb : b.length < 100000)
    (hf : ¬ next + (imageB b 0 ep).length ≤ du.length) :
    ∃ os', KJ 13 [.ref (0, 0) 0, .dat (Bs b)] [jouA .nils next ep cr op, dskB (.rsl (0, 2) v 1 0 du.length) .nils cr op, .arr 1 v false (du.map Bs)] = some (.dat (.int .i64 24), os') ∧ os' = [jouA .nils next ep cr op, dskB (.rsl (0, 2) v 1 0 du.length) .nils cr op, .arr 1 v false (du.map Bs)] := by
  refine ⟨_, callT_ev (fn := fn13) rfl rfl ?_, rfl⟩
  have hv := jvalid_a (rv := .nils) (next := next) (ep := ep) (jcr := cr) (jop := op) (cr := cr) (op := op) (v := v) (du := du)
  have hi := image_run b 0 ep (by omega) (by omega) hep
  generalize imageB b 0 ep = W at *
  have a1 : (du.length : Int) - next < 1000000000000000 := by omega
  have a2 : -1000000000000000 < (du.length : Int) - next := by omega
  have a3 : (du.length : Int) - next < W.length := by omega
  simp [jouA, dskB] at hv hi
  simp [runFun_eq, jouA, dskB, hv, hi, a1, a2, a3]

theorem append_full_b (v vr : Nat) (rs : List (List UInt8)) (du : List (List UInt8)) (cr op : Int) (next ep : Nat) (b : List UInt8) (hdl : du.length ≤ 4096) (hn : next ≤ du.length) (hep : ep < 4294967296) (hb : b.length < 100000) (hrs : rs.length < 100000)
    (hf : ¬ next + (imageB b rs.length ep).length ≤ du.length) :
    ∃ os', KJ 13 [.ref (0, 0) 0, .dat (Bs b)] [jouA (.rsl (0, 2) vr 1 0 rs.length) next ep cr op, dskB (.rsl (0, 3) v 1 0 du.length) .nils cr op, .arr 1 vr false (rs.map Bs), .arr 1 v false (du.map Bs)] = some (.dat (.int .i64 24), os') ∧
      os' = [jouA (.rsl (0, 2) vr 1 0 rs.length) next ep cr op, dskB (.rsl (0, 3) v 1 0 du.length) .nils cr op, .arr 1 vr false (rs.map Bs), .arr 1 v false (du.map Bs)] := by
  refine ⟨_, callT_ev (fn := fn13) rfl rfl ?_, rfl⟩
  have hv := jvalid_b (vr := vr) (rs := rs) (next := next) (ep := ep) (jcr := cr) (jop := op) (cr := cr) (op := op) (v := v) (du := du)
  have hi := image_run b rs.length ep (by omega) (by omega) hep
  have hm : (rs.length : Int) % 4294967296 = rs.length := by omega
  generalize imageB b rs.length ep = W at *
  have a1 : (du.length : Int) - next < 1000000000000000 := by omega
  have a2 : -1000000000000000 < (du.length : Int) - next := by omega
  have a3 : (du.length : Int) - next < W.length := by omega
  simp [jouA, dskB] at hv hi
  simp [runFun_eq, jouA, dskB, hv, hi, a1, a2, a3, hm]

theorem append_crash (v vr : Nat) (rs : List (List UInt8)) (du : List (List UInt8)) (jcr jop cr op : Int) (next ep : Nat) (b : List UInt8) (h : ¬ cr = jcr) :
    KJ 13 [.ref (0, 0) 0, .dat (Bs b)] [jouA (.rsl (0, 2) vr 1 0 rs.length) next ep jcr jop, dskB (.rsl (0, 3) v 1 0 du.length) .nils cr op, .arr 1 vr false (rs.map Bs), .arr 1 v false (du.map Bs)] =
      some (.dat (.int .i64 25), [jouA (.rsl (0, 2) vr 1 0 rs.length) next ep jcr jop, dskB (.rsl (0, 3) v 1 0 du.length) .nils cr op, .arr 1 vr false (rs.map Bs), .arr 1 v false (du.map Bs)]) := by
  refine callT_ev (fn := fn13) rfl rfl ?_
  have hv := jvalid_b (vr := vr) (rs := rs) (next := next) (ep := ep) (jcr := jcr) (jop := jop) (cr := cr) (op := op) (v := v) (du := du)
  simp [jouA, dskB] at hv
  simp [runFun_eq, jouA, dskB, hv, h]

theorem len_run (v vr : Nat) (rs : List (List UInt8)) (du : List (List UInt8)) (jcr jop cr op : Int) (next ep : Nat) :
    KJ 32 [.ref (0, 0) 0] [jouA (.rsl (0, 2) vr 1 0 rs.length) next ep jcr jop, dskB (.rsl (0, 3) v 1 0 du.length) .nils cr op, .arr 1 vr false (rs.map Bs), .arr 1 v false (du.map Bs)] =
      some (.dat (.int .i64 rs.length), [jouA (.rsl (0, 2) vr 1 0 rs.length) next ep jcr jop, dskB (.rsl (0, 3) v 1 0 du.length) .nils cr op, .arr 1 vr false (rs.map Bs), .arr 1 v false (du.map Bs)]) := by
  refine callT_ev (fn := fn32) rfl rfl ?_
  have hv := jvalid_b (vr := vr) (rs := rs) (next := next) (ep := ep) (jcr := jcr) (jop := jop) (cr := cr) (op := op) (v := v) (du := du)
  simp [jouA, dskB] at hv
  simp [runFun_eq, jouA, dskB, hv]

theorem crash_none (v : Nat) (du : List (List UInt8)) (cr op : Int) (h1 : 0 ≤ cr) (h2 : cr < 1000000) : KJ 22 [.ref (0, 0) 0, .dat (.sl [])] (dsk v du cr op .nils []) = some (.dat (.int .i64 0), dsk v du (cr + 1) op .nils []) := by
  refine callT_ev (fn := fn22) rfl rfl ?_
  have hv := valid_run (v := v) (du := du) (cr := cr) (op := op) (.inl ⟨rfl, rfl, rfl⟩)
  have a1 : cr + 1 < 1000000000000000 := by omega
  have a2 : -1000000000000000 < cr + 1 := by omega
  simp [dsk, dskB] at hv
  simp [runFun_eq, dsk, dskB, hv]
  simp only [ev_bnd_iff]
  apply ev_loop
  simp
  simp only [ev_bnd_iff]
  apply ev_loop
  simp [a1, a2]
end Go.Am

/- Walks: the reference's disk. -/
set_option linter.unusedVariables false
set_option linter.unusedSimpArgs false
set_option maxRecDepth 10000
namespace Go.Am
open Go.Proofs

/-! ### what is not made -/
theorem valid_nil : KJ 34 [.nilp] [] = some (.dat (.bool false), []) := callT_ev (fn := fn34) rfl rfl (by simp [runFun_eq])
theorem read_nil (i : Int) : KJ 24 [.nilp, .dat (.int .i64 i)] [] = some (.tup [.dat (.sl []), .dat (.int .i64 23)], []) := callT_ev (fn := fn24) rfl rfl (by simp [runFun_eq, valid_nil])
theorem write_nil (i : Int) (b : List Dat) : KJ 15 [.nilp, .dat (.int .i64 i), .dat (.sl b)] [] = some (.dat (.int .i64 23), []) := callT_ev (fn := fn15) rfl rfl (by simp [runFun_eq, valid_nil])
theorem sync_nil : KJ 16 [.nilp] [] = some (.dat (.int .i64 23), []) := callT_ev (fn := fn16) rfl rfl (by simp [runFun_eq, valid_nil])
theorem crash_nil (b : List Dat) : KJ 22 [.nilp, .dat (.sl b)] [] = some (.dat (.int .i64 23), []) := callT_ev (fn := fn22) rfl rfl (by simp [runFun_eq, valid_nil])
theorem pending_nil : KJ 26 [.nilp] [] = some (.dat (.int .i64 0), []) := callT_ev (fn := fn26) rfl rfl (by simp [runFun_eq, valid_nil])
theorem rread_nil (i : Int) : KJ 25 [.nilp, .dat (.int .i64 i)] [] = some (.tup [.dat (.sl []), .dat (.int .i64 23)], []) := callT_ev (fn := fn25) rfl rfl (by simp [runFun_eq])
theorem rwrite_nil (i : Int) (b : List Dat) : KJ 20 [.nilp, .dat (.int .i64 i), .dat (.sl b)] [] = some (.dat (.int .i64 23), []) := callT_ev (fn := fn20) rfl rfl (by simp [runFun_eq])
theorem rsync_nil : KJ 21 [.nilp] [] = some (.dat (.int .i64 23), []) := callT_ev (fn := fn21) rfl rfl (by simp [runFun_eq])
theorem rcrash_nil (b : List Dat) : KJ 23 [.nilp, .dat (.sl b)] [] = some (.dat (.int .i64 23), []) := callT_ev (fn := fn23) rfl rfl (by simp [runFun_eq])
theorem rpending_nil : KJ 27 [.nilp] [] = some (.dat (.int .i64 0), []) := callT_ev (fn := fn27) rfl rfl (by simp [runFun_eq])
theorem newDisk_out {n : Int} (h : n < 1 ∨ 4096 < n) : KJ 9 [.dat (.int .i64 n)] [] = some (.tup [.nilp, .dat (.int .i64 2)], []) := by
  refine callT_ev (fn := fn9) rfl rfl ?_
  by_cases h1 : n < 1
  · simp [runFun_eq, h1]
  · have h2 : 4096 < n := by omega
    simp [runFun_eq, h1, h2]
theorem rnewDisk_out {n : Int} (h : n < 1 ∨ 4096 < n) : KJ 18 [.dat (.int .i64 n)] [] = some (.tup [.nilp, .dat (.int .i64 2)], []) := by
  refine callT_ev (fn := fn18) rfl rfl ?_
  by_cases h1 : n < 1
  · simp [runFun_eq, h1]
  · have h2 : 4096 < n := by omega
    simp [runFun_eq, h1, h2]

theorem rnd_loop (n : Nat) (hn : n ≤ 4096) : ∀ (m j v : Nat) (s : St), j + m = n → 1 ≤ j →
    hd [0, 4, 5] [4] s = some ⟨[(0, .dat (.int .i64 n)), (4, .ref (5, 0) 0), (5, .dat (.int .i64 j))], [((5, 0), dskB (.rsl (5, 1) v 1 0 j) .nils 0 0), ((5, 1), .arr 1 v false ((List.replicate j zeroS).map Bs))]⟩ →
    Ev (loopLim (exec KJ l18_0) s) (ndPost n) := by
  intro m
  induction m with
  | zero =>
    intro j v s hj h1 hs
    apply ev_loop
    have : j = n := by omega
    subst this
    simp [hs, ndPost, dskB]
  | succ m ih =>
    intro j v s hj h1 hs
    apply ev_loop
    have hlt : j < n := by omega
    have hx : Ix j := by unfold Ix; omega
    have hr : (j + 1) * 25 ≤ 1099511627776 := by omega
    generalize hQ : ndPost n = Q
    simp [hs, dskB, hlt, hx, hr, -List.reduceReplicate]
    rw [← hQ]
    refine Ev.mono (ih (j + 1) (v + 1) _ (by omega) (by omega) ?_) (fun _ h => h)
    simp [dskB, -List.reduceReplicate, List.replicate_succ', zeroS]

theorem rnewDisk_run (n : Nat) (h1 : 1 ≤ n) (h2 : n ≤ 4096) : ∃ v, KJ 18 [.dat (.int .i64 n)] [] = some (.tup [.ref (0, 0) 0, .dat (.int .i64 0)], dsk v (List.replicate n zeroS) 0 0 .nils []) := by
  have h3 : ¬ (n : Int) < 1 := by omega
  have h3' : ¬ n < 1 := by omega
  have h4 : ¬ (4096 : Int) < n := by omega
  have h5 : 0 < n := by omega
  have key : Ev (runFun KJ fn18 [.dat (.int .i64 n)] []) fun r => ∃ v, r = (.tup [.ref (0, 0) 0, .dat (.int .i64 0)], dsk v (List.replicate n zeroS) 0 0 .nils []) := by
    simp [runFun_eq, h3, h4, h5]
    simp only [ev_bnd_iff]
    apply ev_loop
    generalize hQ : ndPost n = Q
    simp [h5, -List.reduceReplicate]
    refine Ev.mono (rnd_loop n h2 (n - 1) 1 0 _ (by omega) (by omega) (by simp [dskB, zeroS, -List.reduceReplicate])) ?_
    rintro ⟨_, s⟩ ⟨rfl, v, hs⟩
    simp at hs
    simp [hs, dskB, dsk]
  obtain ⟨r, hr, v, rfl⟩ := key
  exact ⟨v, callT_ev (fn := fn18) rfl rfl ⟨_, hr, rfl⟩⟩

section
variable {v : Nat} {du : List (List UInt8)} {pe : List (Int × List UInt8)} {cr op : Int} {pv : AVal} {po : List Obj}

theorem pending_run (hp : Pend pe pv po) : KJ 26 [.ref (0, 0) 0] (dsk v du cr op pv po) = some (.dat (.int .i64 pe.length), dsk v du cr op pv po) := by
  refine callT_ev (fn := fn26) rfl rfl ?_
  have hv := valid_run (v := v) (du := du) (cr := cr) (op := op) hp
  rcases hp with ⟨rfl, rfl, rfl⟩ | ⟨v2, rfl, rfl⟩ <;> simp [dsk, dskB] at hv <;> simp [runFun_eq, dsk, dskB, hv]
theorem rpending_run (hp : Pend pe pv po) : KJ 27 [.ref (0, 0) 0] (dsk v du cr op pv po) = some (.dat (.int .i64 pe.length), dsk v du cr op pv po) := by
  refine callT_ev (fn := fn27) rfl rfl ?_
  rcases hp with ⟨rfl, rfl, rfl⟩ | ⟨v2, rfl, rfl⟩ <;> simp [runFun_eq, dsk, dskB]

/-- a write that is refused -/
theorem write_bad (hp : Pend pe pv po) {i : Int} {b : List UInt8} (h : i < 0 ∨ (du.length : Int) ≤ i ∨ b.length ≠ 64) :
    ∃ e, KJ 15 [.ref (0, 0) 0, .dat (.int .i64 i), .dat (.sl (b.map B))] (dsk v du cr op pv po) = some (.dat (.int .i64 e), dsk v du cr op pv po) ∧
      e = if i < 0 ∨ (du.length : Int) ≤ i then 2 else 1 := by
  refine ⟨_, callT_ev (fn := fn15) rfl rfl ?_, rfl⟩
  have hv := valid_run (v := v) (du := du) (cr := cr) (op := op) hp
  by_cases h1 : i < 0
  · rcases hp with ⟨rfl, rfl, rfl⟩ | ⟨v2, rfl, rfl⟩ <;> simp [dsk, dskB] at hv <;> simp [runFun_eq, dsk, dskB, hv, h1]
  · by_cases h2 : (du.length : Int) ≤ i
    · rcases hp with ⟨rfl, rfl, rfl⟩ | ⟨v2, rfl, rfl⟩ <;> simp [dsk, dskB] at hv <;> simp [runFun_eq, dsk, dskB, hv, h1, h2]
    · have h3 : ¬ b.length = 64 := by omega
      have h4 : ¬ (b.length : Int) = 64 := by omega
      rcases hp with ⟨rfl, rfl, rfl⟩ | ⟨v2, rfl, rfl⟩ <;> simp [dsk, dskB] at hv <;> simp [runFun_eq, dsk, dskB, hv, h1, h2, h3, h4]
theorem rwrite_bad (hp : Pend pe pv po) {i : Int} {b : List UInt8} (h : i < 0 ∨ (du.length : Int) ≤ i ∨ b.length ≠ 64) :
    ∃ e, KJ 20 [.ref (0, 0) 0, .dat (.int .i64 i), .dat (.sl (b.map B))] (dsk v du cr op pv po) = some (.dat (.int .i64 e), dsk v du cr op pv po) ∧
      e = if i < 0 ∨ (du.length : Int) ≤ i then 2 else 1 := by
  refine ⟨_, callT_ev (fn := fn20) rfl rfl ?_, rfl⟩
  by_cases h1 : i < 0
  · rcases hp with ⟨rfl, rfl, rfl⟩ | ⟨v2, rfl, rfl⟩ <;> simp [runFun_eq, dsk, dskB, h1]
  · by_cases h2 : (du.length : Int) ≤ i
    · rcases hp with ⟨rfl, rfl, rfl⟩ | ⟨v2, rfl, rfl⟩ <;> simp [runFun_eq, dsk, dskB, h1, h2]
    · have h3 : ¬ b.length = 64 := by omega
      have h4 : ¬ (b.length : Int) = 64 := by omega
      rcases hp with ⟨rfl, rfl, rfl⟩ | ⟨v2, rfl, rfl⟩ <;> simp [runFun_eq, dsk, dskB, h1, h2, h3, h4]

theorem rwrite_run (hp : Pend pe pv po) (hl : pe.length < 1000000000) {i : Nat} (hi : i < du.length) {b : List UInt8} (hb : b.length = 64) :
    ∃ v2, KJ 20 [.ref (0, 0) 0, .dat (.int .i64 i), .dat (.sl (b.map B))] (dsk v du cr op pv po) = some (.dat (.int .i64 0), dsk v du cr op (.rsl (0, 2) v2 2 0 (pe.length + 1)) [.arr 2 v2 false ((pe ++ [((i : Int), b)]).map pnd)]) := by
  have hge : ¬ du.length ≤ i := by omega
  have hbn : ¬ b = [] := by rintro rfl; simp at hb
  rcases hp with ⟨rfl, rfl, rfl⟩ | ⟨v2, rfl, rfl⟩
  · refine ⟨0, callT_ev (fn := fn20) rfl rfl ?_⟩
    simp [runFun_eq, dsk, dskB, hi, hge, hb, hbn]
  · refine ⟨v2 + 1, callT_ev (fn := fn20) rfl rfl ?_⟩
    have hr : (pe.length + 1) * 33 ≤ 1099511627776 := by omega
    simp [runFun_eq, dsk, dskB, hi, hge, hb, hbn, hr]
end
end Go.Am

/- Walks: the reference's disk, read and synchronised. -/
set_option linter.unusedVariables false
set_option linter.unusedSimpArgs false
set_option maxRecDepth 10000
namespace Go.Am
open Go.Proofs

theorem rsync_loop (v v2 n : Nat) (cr op : Int) : ∀ (rest pre : List (Int × List UInt8)) (s : St) (du : List (List UInt8)), (∀ w ∈ rest, 0 ≤ w.1 ∧ w.1 < n) → pre.length + rest.length < 1000000000 → du.length = n →
    hd [0, 3] [] s = some ⟨[(0, .ref (0,0) 0), (3, .dat (.int .i64 pre.length))], [((0,0), dskB (.rsl (0, 1) v 1 0 n) (.rsl (0, 2) v2 2 0 (pre ++ rest).length) cr op), ((0,1), .arr 1 v false (du.map Bs)), ((0,2), .arr 2 v2 false ((pre ++ rest).map pnd))]⟩ →
    Ev (loopLim (exec KJ l21_0) s) (syncPost v v2 n (syncS rest du) cr op (pre ++ rest)) := by
  intro rest
  induction rest with
  | nil =>
    intro pre s du h hi hl hs
    apply ev_loop
    simp [hs, syncS, syncPost, dskB]
  | cons w rest ih =>
    intro pre s du h hi hl hs
    apply ev_loop
    rw [List.length_cons] at hi
    obtain ⟨h1, h2⟩ := h w (by simp)
    have hx : Ix pre.length := by unfold Ix; omega
    obtain ⟨d, hd, hd'⟩ := get_at' du (i := w.1.toNat) (by omega)
    have e1 : pre ++ w :: rest = (pre ++ [w]) ++ rest := by simp
    rw [show syncS (w :: rest) du = syncS rest (du.set w.1.toNat w.2) from rfl]
    generalize hQ : syncPost v v2 n (syncS rest (du.set w.1.toNat w.2)) cr op (pre ++ w :: rest) = Q
    simp [hs, dskB, hx, h1, h2, hd, hd', hl]
    rw [← hQ, e1]
    refine Ev.mono (ih (pre ++ [w]) _ (du.set w.1.toNat w.2) (fun w h' => h w (by simp [h'])) (by simp; omega) (by simp [hl]) (by simp [dskB])) (fun _ h => h)

theorem rsync_run (v v2 : Nat) (du : List (List UInt8)) (cr op : Int) (pe : List (Int × List UInt8)) (h : ∀ w ∈ pe, 0 ≤ w.1 ∧ w.1 < du.length) (hl : pe.length < 1000000000) :
    KJ 21 [.ref (0, 0) 0] (dsk v du cr op (.rsl (0, 2) v2 2 0 pe.length) [.arr 2 v2 false (pe.map pnd)]) = some (.dat (.int .i64 0), dsk v (syncS pe du) cr op .nils [.arr 2 v2 false (pe.map pnd)]) := by
  refine callT_ev (fn := fn21) rfl rfl ?_
  simp [runFun_eq, dsk, dskB]
  simp only [ev_bnd_iff]
  refine Ev.mono (rsync_loop v v2 du.length cr op pe [] _ du h (by simpa using hl) rfl (by simp [dskB])) ?_
  rintro ⟨_, s⟩ ⟨rfl, hs⟩
  simp at hs
  simp [hs, dskB, syncS_len]

theorem rsync_none (v : Nat) (du : List (List UInt8)) (cr op : Int) : KJ 21 [.ref (0, 0) 0] (dsk v du cr op .nils []) = some (.dat (.int .i64 0), dsk v du cr op .nils []) := by
  refine callT_ev (fn := fn21) rfl rfl ?_
  simp [runFun_eq, dsk, dskB]
  simp only [ev_bnd_iff]
  apply ev_loop
  simp

def rrdPost (v v2 : Nat) (du : List (List UInt8)) (cr op : Int) (pe : List (Int × List UInt8)) (b : List UInt8) (q : AEx × St) : Prop := q.1 = .exit 0 ∧ ∃ v',
  hd [6] [] q.2 = some ⟨[(6, .rsl (7, 0) v' 1 0 b.length)], [((0,0), dskB (.rsl (0, 1) v 1 0 du.length) (.rsl (0, 2) v2 2 0 pe.length) cr op), ((0,1), .arr 1 v false (du.map Bs)), ((0,2), .arr 2 v2 false (pe.map pnd)), ((7, 0), .arr 1 v' false (b.map B))]⟩

theorem rrd_loop (v v2 : Nat) (du : List (List UInt8)) (cr op : Int) (i : Nat) : ∀ (rest pre : List (Int × List UInt8)) (v' : Nat) (b : List UInt8) (s : St), pre.length + rest.length < 1000000000 → (∀ w ∈ rest, w.2.length = 64) →
    hd [0, 1, 6, 7] [0, 6] s = some ⟨[(0, .ref (0,0) 0), (1, .dat (.int .i64 i)), (6, .rsl (7, 0) v' 1 0 b.length), (7, .dat (.int .i64 pre.length))], [((0,0), dskB (.rsl (0, 1) v 1 0 du.length) (.rsl (0, 2) v2 2 0 (pre ++ rest).length) cr op), ((0,1), .arr 1 v false (du.map Bs)), ((0,2), .arr 2 v2 false ((pre ++ rest).map pnd)), ((7, 0), .arr 1 v' false (b.map B))]⟩ →
    Ev (loopLim (exec KJ l25_0) s) (rrdPost v v2 du cr op (pre ++ rest) ((lastW rest i).getD b)) := by
  intro rest
  induction rest with
  | nil =>
    intro pre v' b s hl h64 hs
    apply ev_loop
    simp [hs, dskB]
    exact ⟨rfl, v', by simp [dskB, lastW]⟩
  | cons w rest ih =>
    intro pre v' b s hl h64 hs
    apply ev_loop
    rw [List.length_cons] at hl
    have hx : Ix pre.length := by unfold Ix; omega
    have hw := h64 w (by simp)
    have hwn : ¬ w.2 = [] := by intro h; rw [h] at hw; simp at hw
    have e1 : pre ++ w :: rest = (pre ++ [w]) ++ rest := by simp
    by_cases hwi : w.1 = i
    · have e2 : (lastW (w :: rest) i).getD b = (lastW rest i).getD w.2 := by
        simp only [lastW]
        cases lastW rest i <;> simp [hwi]
      rw [e2, e1]
      have ih2 := ih (pre ++ [w])
      generalize hQ : rrdPost v v2 du cr op (pre ++ [w] ++ rest) ((lastW rest i).getD w.2) = Q
      simp [hs, dskB, hx, hwi, hwn, hw]
      rw [← hQ]
      refine Ev.mono (ih2 1 w.2 _ (by simp; omega) (fun x hx => h64 x (by simp [hx])) (by simp [dskB, hw, hwi])) (fun _ h => h)
    · have e2 : (lastW (w :: rest) i).getD b = (lastW rest i).getD b := by
        simp only [lastW]
        cases lastW rest i <;> simp [hwi]
      rw [e2, e1]
      have ih2 := ih (pre ++ [w])
      generalize hQ : rrdPost v v2 du cr op (pre ++ [w] ++ rest) ((lastW rest i).getD b) = Q
      simp [hs, dskB, hx, hwi]
      rw [← hQ]
      refine Ev.mono (ih2 v' b _ (by simp; omega) (fun x hx => h64 x (by simp [hx])) (by simp [dskB])) (fun _ h => h)

theorem rread_run {v : Nat} {du : List (List UInt8)} {pe : List (Int × List UInt8)} {cr op : Int} {pv : AVal} {po : List Obj} (hp : Pend pe pv po) (hl : pe.length < 1000000000) (h1 : ∀ d ∈ du, d.length = 64) (h2 : ∀ w ∈ pe, w.2.length = 64) {i : Nat} (hi : i < du.length) :
    KJ 25 [.ref (0, 0) 0, .dat (.int .i64 i)] (dsk v du cr op pv po) = some (.tup [.dat (Bs (cont du pe i)), .dat (.int .i64 0)], dsk v du cr op pv po) := by
  refine callT_ev (fn := fn25) rfl rfl ?_
  have hge : ¬ du.length ≤ i := by omega
  obtain ⟨d, hd, hd'⟩ := get_at' du hi
  have h64 := h1 d (List.mem_of_getElem? hd)
  have hn : ¬ d = [] := by rintro rfl; simp at h64
  have hgd : du.getD i [] = d := by rw [List.getD_eq_getElem?_getD, hd]; rfl
  rcases hp with ⟨rfl, rfl, rfl⟩ | ⟨v2, rfl, rfl⟩
  · simp [runFun_eq, dsk, dskB, hi, hge, hd, hd', h64, hn]
    simp only [ev_bnd_iff]
    apply ev_loop
    simp [cont, lastW, hd, hd', h64]
  · have hc : cont du pe i = (lastW pe i).getD d := by rw [cont, hgd]
    simp [runFun_eq, dsk, dskB, hi, hge, hd, hd', h64, hn]
    simp only [ev_bnd_iff]
    refine Ev.mono (rrd_loop v v2 du cr op i pe [] _ d _ (by simpa using hl) h2 (by simp [dskB, h64]; rfl)) ?_
    rintro ⟨_, s⟩ ⟨rfl, v', hs⟩
    rw [List.nil_append, ← hc] at hs
    simp at hs
    simp [hs, dskB]

theorem rread_out {v : Nat} {du : List (List UInt8)} {pe : List (Int × List UInt8)} {cr op : Int} {pv : AVal} {po : List Obj} (hp : Pend pe pv po) {i : Int} (hi : i < 0 ∨ (du.length : Int) ≤ i) :
    KJ 25 [.ref (0, 0) 0, .dat (.int .i64 i)] (dsk v du cr op pv po) = some (.tup [.dat (.sl []), .dat (.int .i64 2)], dsk v du cr op pv po) := by
  refine callT_ev (fn := fn25) rfl rfl ?_
  by_cases h : i < 0
  · rcases hp with ⟨rfl, rfl, rfl⟩ | ⟨v2, rfl, rfl⟩ <;> simp [runFun_eq, dsk, dskB, h]
  · have h' : (du.length : Int) ≤ i := by omega
    rcases hp with ⟨rfl, rfl, rfl⟩ | ⟨v2, rfl, rfl⟩ <;> simp [runFun_eq, dsk, dskB, h, h']

theorem sector_run (b : List UInt8) (hb : b.length < 1000000) : KJ 19 [.dat (.sl (b.map B))] [] = some (.dat (.sl ((b.take 64 ++ List.replicate (64 - b.length) 0).map B)), []) := by
  refine callT_ev (fn := fn19) rfl rfl ?_
  have e : min 64 b.length ≤ 64 := by omega
  have e2 : min 64 b.length + (64 - min 64 b.length) = 64 := by omega
  have e3 : 64 - min 64 b.length = 64 - b.length := by omega
  have e4 : 64 ≤ min 64 b.length + (64 - b.length) := by omega
  have e5 : min 64 b.length + (64 - b.length) ≤ 64 := by omega
  simp [runFun_eq, -List.reduceReplicate, -List.map_take, take_map, drop_none, e2, e3, e4, e5]
end Go.Am

/- Walks: crashes. -/
set_option linter.unusedVariables false
set_option linter.unusedSimpArgs false
set_option maxRecDepth 10000
namespace Go.Am
open Go.Proofs

@[simp] def I64 (k : Int) : Dat := .int .i64 k

/-- the kept writes, made -/
def crashW (keep : List Int) : Nat → List (Int × List UInt8) → List (List UInt8) → List (List UInt8)
  | _, [], du => du
  | k, w :: r, du => crashW keep (k + 1) r (if (k : Int) ∈ keep then du.set w.1.toNat w.2 else du)

theorem crashW_len (keep : List Int) : ∀ (pe : List (Int × List UInt8)) (k : Nat) (du : List (List UInt8)), (crashW keep k pe du).length = du.length
  | [], k, du => rfl
  | w :: r, k, du => by rw [crashW, crashW_len keep r]; split <;> simp

def okK (keep : List Int) (n : Nat) : Bool := keep.all fun k => decide (0 ≤ k) && decide (k < n)

def flags (n : Nat) (pre : List Int) : List Dat := (List.range n).map fun (j : Nat) => Dat.bool (decide ((j : Int) ∈ pre))

theorem flags_len (n : Nat) (pre : List Int) : (flags n pre).length = n := by simp [flags]
theorem flags_get (n : Nat) (pre : List Int) {j : Nat} (h : j < n) : (flags n pre)[j]? = some (.bool (decide ((j : Int) ∈ pre))) := by simp [flags, h]
theorem flags_set (n : Nat) (pre : List Int) {k : Int} (h1 : 0 ≤ k) (h2 : k < n) : (flags n pre).set k.toNat (.bool true) = flags n (pre ++ [k]) := by
  apply List.ext_getElem?
  intro j
  rw [List.getElem?_set]
  by_cases hj : j < n
  · rw [flags_get n _ hj, flags_get n _ hj, flags_len]
    by_cases he : k.toNat = j
    · have : (j : Int) ∈ pre ++ [k] := by simp; right; omega
      rw [if_pos he, if_pos (by omega)]
      simp [this]
    · have : ¬ (j : Int) = k := by omega
      rw [if_neg he]
      simp [this]
  · rw [List.getElem?_eq_none (by rw [flags_len]; omega), List.getElem?_eq_none (by rw [flags_len]; omega)]
    split
    · rw [flags_len, if_neg (by omega)]
    · rfl
theorem flags_nil (n : Nat) : List.replicate n (Dat.bool false) = flags n [] := by
  apply List.ext_getElem?
  intro j
  by_cases hj : j < n
  · rw [flags_get n _ hj, List.getElem?_replicate, if_pos hj]; simp
  · rw [List.getElem?_eq_none (by simp; omega), List.getElem?_eq_none (by rw [flags_len]; omega)]

def ckPost (st : Store) (n : Nat) (keep : List Int) (t : Bool) (q : AEx × St) : Prop :=
  (q.1 = .ret ∧ t = false ∧ hd [4] [] q.2 = some ⟨[(4, .dat (.int .i64 2))], st ++ [((19, 0), .arr 1 0 false [])]⟩) ∨
  (q.1 = .exit 0 ∧ t = true ∧ hd [0, 5] [] q.2 = some ⟨[(0, .ref (0, 0) 0), (5, .rsl (19, 0) 0 1 0 n)], st ++ [((19, 0), .arr 1 0 false (flags n keep))]⟩)

/-- the check of the numbers, and the marks -/
theorem ck_loop {v : Nat} {du : List (List UInt8)} {pe : List (Int × List UInt8)} {cr op : Int} {pv : AVal} {po : List Obj} (hp : Pend pe pv po) (n : Nat) : ∀ (rest pre : List Int) (s : St), pre.length + rest.length < 1000000 →
    hd [0, 5, 19, 20, 21] [] s = some ⟨[(0, .ref (0, 0) 0), (5, .rsl (19, 0) 0 1 0 n), (19, .dat (.sl ((pre ++ rest).map I64))), (20, .dat (.int .i64 (pre ++ rest).length)), (21, .dat (.int .i64 pre.length))], dst v du cr op pv po ++ [((19, 0), .arr 1 0 false (flags n pre))]⟩ →
    Ev (loopLim (exec KJ l22_0) s) fun q => (q.1 = .ret ∧ okK rest n = false ∧ ∃ fl, hd [4] [] q.2 = some ⟨[(4, .dat (.int .i64 2))], dst v du cr op pv po ++ [((19, 0), .arr 1 0 false fl)]⟩) ∨
      (q.1 = .exit 0 ∧ okK rest n = true ∧ hd [0, 5] [] q.2 = some ⟨[(0, .ref (0, 0) 0), (5, .rsl (19, 0) 0 1 0 n)], dst v du cr op pv po ++ [((19, 0), .arr 1 0 false (flags n (pre ++ rest)))]⟩) := by
  intro rest
  induction rest with
  | nil =>
    intro pre s hl hs
    apply ev_loop
    rcases hp with ⟨rfl, rfl, rfl⟩ | ⟨v2, rfl, rfl⟩
    · simp [hs, dst, dskB, okK]
    · simp [hs, dst, dskB, okK]
  | cons k rest ih =>
    intro pre s hl hs
    apply ev_loop
    rw [List.length_cons] at hl
    have hx : Ix pre.length := by unfold Ix; omega
    have ih2 := ih (pre ++ [k])
    have hgk := fun h1 h2 => flags_set n pre (k := k) h1 h2
    have hfl := flags_len n pre
    have hfg := fun h : k.toNat < n => flags_get n pre h
    by_cases hk : 0 ≤ k ∧ k < n
    · have hok : okK (k :: rest) n = okK rest n := by simp [okK, hk.1, hk.2]
      have e1 : pre ++ k :: rest = (pre ++ [k]) ++ rest := by simp
      have hk1 : ¬ k < 0 := by omega
      have hk2 : ¬ (n : Int) ≤ k := by omega
      rw [hok, e1]
      have hg := hfg (by omega)
      have hg' : ∀ h : k.toNat < (flags n pre).length, (flags n pre)[k.toNat] = Dat.bool (decide ((k.toNat : Int) ∈ pre)) := by
        intro h
        rw [List.getElem?_eq_getElem h] at hg
        exact Option.some.inj hg
      have hse := hgk hk.1 hk.2
      generalize flags n pre = F at *
      generalize hQ : (fun q : AEx × St => (q.1 = .ret ∧ okK rest n = false ∧ ∃ fl, hd [4] [] q.2 = some ⟨[(4, .dat (.int .i64 2))], dst v du cr op pv po ++ [((19, 0), .arr 1 0 false fl)]⟩) ∨
      (q.1 = .exit 0 ∧ okK rest n = true ∧ hd [0, 5] [] q.2 = some ⟨[(0, .ref (0, 0) 0), (5, .rsl (19, 0) 0 1 0 n)], dst v du cr op pv po ++ [((19, 0), .arr 1 0 false (flags n (pre ++ [k] ++ rest)))]⟩)) = Q at ih2 ⊢
      rcases hp with ⟨rfl, rfl, rfl⟩ | ⟨v2, rfl, rfl⟩
      · simp [hs, dst, dskB, hx, hk1, hk2, hk.1, hk.2, hg, hg', hfl, hse]
        refine Ev.mono (ih2 _ (by simp; omega) (by simp [dst, dskB])) (fun _ h => h)
      · simp [hs, dst, dskB, hx, hk1, hk2, hk.1, hk.2, hg, hg', hfl, hse]
        refine Ev.mono (ih2 _ (by simp; omega) (by simp [dst, dskB])) (fun _ h => h)
    · have hok : okK (k :: rest) n = false := by
        simp only [okK, List.all_cons]
        by_cases h0 : 0 ≤ k
        · have h1 : ¬ k < n := fun h => hk ⟨h0, h⟩
          simp [h1]
        · simp [h0]
      rw [hok]
      by_cases hk1 : k < 0
      · rcases hp with ⟨rfl, rfl, rfl⟩ | ⟨v2, rfl, rfl⟩ <;> simp [hs, dst, dskB, hx, hk1]
      · have hk2 : (n : Int) ≤ k := by omega
        rcases hp with ⟨rfl, rfl, rfl⟩ | ⟨v2, rfl, rfl⟩ <;> simp [hs, dst, dskB, hx, hk1, hk2]
end Go.Am

/- Walks: crashes, executed. -/
set_option linter.unusedVariables false
set_option linter.unusedSimpArgs false
set_option maxRecDepth 10000
namespace Go.Am
open Go.Proofs

def cwPost (v v2 n : Nat) (cr op : Int) (pe : List (Int × List UInt8)) (du : List (List UInt8)) (q : AEx × St) : Prop := q.1 = .exit 2 ∧ ∃ F,
  hd [0] [] q.2 = some ⟨[(0, .ref (0, 0) 0)], [((0,0), dskB (.rsl (0, 1) v 1 0 n) (.rsl (0, 2) v2 2 0 pe.length) cr op), ((0,1), .arr 1 v false (du.map Bs)), ((0,2), .arr 2 v2 false (pe.map pnd)), ((6, 0), .arr 1 0 false F)]⟩

theorem cw_loop (v v2 n : Nat) (cr op : Int) (keep : List Int) : ∀ (rest pre : List (Int × List UInt8)) (s : St) (du : List (List UInt8)), (∀ w ∈ rest, 0 ≤ w.1 ∧ w.1 < n) → pre.length + rest.length < 1000000000 → du.length = n →
    hd [0, 5, 40, 41, 42] [0, 5, 40] s = some ⟨[(0, .ref (0,0) 0), (5, .rsl (6, 0) 0 1 0 (pre ++ rest).length), (40, .rsl (0, 2) v2 2 0 (pre ++ rest).length), (41, .dat (.int .i64 (pre ++ rest).length)), (42, .dat (.int .i64 pre.length))],
      [((0,0), dskB (.rsl (0, 1) v 1 0 n) (.rsl (0, 2) v2 2 0 (pre ++ rest).length) cr op), ((0,1), .arr 1 v false (du.map Bs)), ((0,2), .arr 2 v2 false ((pre ++ rest).map pnd)), ((6, 0), .arr 1 0 false (flags (pre ++ rest).length keep))]⟩ →
    Ev (loopLim (exec KJ l22_1) s) (cwPost v v2 n cr op (pre ++ rest) (crashW keep pre.length rest du)) := by
  intro rest
  induction rest with
  | nil =>
    intro pre s du h hi hl hs
    apply ev_loop
    generalize flags (pre ++ []).length keep = F at *
    simp [hs, crashW, dskB]
    exact ⟨rfl, F, by simp [dskB]⟩
  | cons w rest ih =>
    intro pre s du h hi hl hs
    apply ev_loop
    rw [List.length_cons] at hi
    obtain ⟨h1, h2⟩ := h w (by simp)
    have hx : Ix pre.length := by unfold Ix; omega
    obtain ⟨d, hd, hd'⟩ := get_at' du (i := w.1.toNat) (by omega)
    have e1 : pre ++ w :: rest = (pre ++ [w]) ++ rest := by simp
    have hfl := flags_len (pre ++ w :: rest).length keep
    have hfg := flags_get (pre ++ w :: rest).length keep (j := pre.length) (by simp)
    have hfg' : ∀ h : pre.length < (flags (pre ++ w :: rest).length keep).length, (flags (pre ++ w :: rest).length keep)[pre.length] = Dat.bool (decide ((pre.length : Int) ∈ keep)) := by
      intro h
      rw [List.getElem?_eq_getElem h] at hfg
      exact Option.some.inj hfg
    have ih2 := ih (pre ++ [w])
    rw [← e1] at ih2
    generalize flags (pre ++ w :: rest).length keep = F at *
    simp only [List.length_append, List.length_cons] at hfl
    rw [crashW]
    by_cases hk : (pre.length : Int) ∈ keep
    · rw [if_pos hk]
      rw [show (pre ++ [w]).length = pre.length + 1 from by simp] at ih2
      generalize hQ : cwPost v v2 n cr op (pre ++ w :: rest) (crashW keep (pre.length + 1) rest (du.set w.1.toNat w.2)) = Q
      simp [hs, dskB, hx, h1, h2, hd, hd', hl, hfl, hfg, hfg', hk]
      rw [← hQ]
      refine Ev.mono (ih2 _ (du.set w.1.toNat w.2) (fun w h' => h w (by simp [h'])) (by omega) (by simp [hl]) (by simp [dskB, hfl])) (fun _ h => h)
    · rw [if_neg hk]
      rw [show (pre ++ [w]).length = pre.length + 1 from by simp] at ih2
      generalize hQ : cwPost v v2 n cr op (pre ++ w :: rest) (crashW keep (pre.length + 1) rest du) = Q
      simp [hs, dskB, hx, h1, h2, hd, hd', hl, hfl, hfg, hfg', hk]
      rw [← hQ]
      refine Ev.mono (ih2 _ du (fun w h' => h w (by simp [h'])) (by omega) hl (by simp [dskB, hfl])) (fun _ h => h)

theorem crash_run {v : Nat} {du : List (List UInt8)} {pe : List (Int × List UInt8)} {cr op : Int} {pv : AVal} {po : List Obj} (hp : Pend pe pv po) (h : ∀ w ∈ pe, 0 ≤ w.1 ∧ w.1 < du.length) (hl : pe.length < 1000000) (keep : List Int) (hk : keep.length < 1000000) (h1 : 0 ≤ cr) (h2 : cr < 1000000) :
    KJ 22 [.ref (0, 0) 0, .dat (.sl (keep.map I64))] (dsk v du cr op pv po) =
      if okK keep pe.length then some (.dat (.int .i64 0), dsk v (crashW keep 0 pe du) (cr + 1) op .nils po) else some (.dat (.int .i64 2), dsk v du cr op pv po) := by
  have hv := valid_run (v := v) (du := du) (cr := cr) (op := op) hp
  have a1 : cr + 1 < 1000000000000000 := by omega
  have a2 : -1000000000000000 < cr + 1 := by omega
  have hck := fun s hh => ck_loop (v := v) (du := du) (cr := cr) (op := op) hp pe.length keep [] s (by simpa using hk) hh
  rw [List.nil_append] at hck
  have hfn := flags_nil pe.length
  have hfl := flags_len pe.length keep
  rcases hp with ⟨rfl, rfl, rfl⟩ | ⟨v2, rfl, rfl⟩
  · simp [dsk, dskB] at hv
    generalize hQ : (fun q : AEx × St => (q.1 = .ret ∧ okK keep ([] : List (Int × List UInt8)).length = false ∧ _) ∨ _) = Q at hck
    by_cases hok : okK keep ([] : List (Int × List UInt8)).length = true
    · rw [if_pos hok]
      refine callT_ev (fn := fn22) rfl rfl ?_
      simp [runFun_eq, dsk, dskB, hv]
      simp only [ev_bnd_iff]
      refine Ev.mono (hck _ (by simp [dst, dskB, flags])) ?_
      rw [← hQ]
      rintro ⟨x, s⟩ (⟨rfl, e, hs⟩ | ⟨rfl, e, hs⟩)
      · rw [hok] at e; cases e
      · simp at hs
        simp [hs, dst, dskB]
        simp only [ev_bnd_iff]
        apply ev_loop
        simp [a1, a2, crashW]
    · rw [if_neg hok]
      refine callT_ev (fn := fn22) rfl rfl ?_
      simp [runFun_eq, dsk, dskB, hv]
      simp only [ev_bnd_iff]
      refine Ev.mono (hck _ (by simp [dst, dskB, flags])) ?_
      rw [← hQ]
      rintro ⟨x, s⟩ (⟨rfl, e, fl, hs⟩ | ⟨rfl, e, hs⟩)
      · dsimp only at hs
        simp only [blkK, Ev_some, seqK, endK_hd hs]
        simp [dst, dskB]
      · exact absurd e hok
  · simp [dsk, dskB] at hv
    have hcw := fun s hh => cw_loop v v2 du.length cr op keep pe [] s du h (by simp; omega) rfl hh
    rw [List.nil_append] at hcw
    have hr : (pe.length : Int) ≤ 1099511627776 := by omega
    have hr' : pe.length ≤ 1099511627776 := by omega
    generalize hQ : (fun q : AEx × St => (q.1 = .ret ∧ okK keep pe.length = false ∧ _) ∨ _) = Q at hck
    by_cases hok : okK keep pe.length = true
    · rw [if_pos hok]
      refine callT_ev (fn := fn22) rfl rfl ?_
      simp [runFun_eq, dsk, dskB, hv, hr, hr']
      simp only [ev_bnd_iff]
      refine Ev.mono (hck _ (by simp [dst, dskB, ← hfn])) ?_
      rw [← hQ]
      rintro ⟨x, s⟩ (⟨rfl, e, hs⟩ | ⟨rfl, e, hs⟩)
      · rw [hok] at e; cases e
      · generalize flags pe.length keep = F at *
        simp at hs
        simp [hs, dst, dskB]
        simp only [ev_bnd_iff]
        refine Ev.mono (hcw _ (by simp [dskB])) ?_
        rintro ⟨x, s⟩ ⟨rfl, F', hs⟩
        simp at hs
        simp [hs, dskB, a1, a2, crashW_len]
    · rw [if_neg hok]
      refine callT_ev (fn := fn22) rfl rfl ?_
      simp [runFun_eq, dsk, dskB, hv, hr, hr']
      simp only [ev_bnd_iff]
      refine Ev.mono (hck _ (by simp [dst, dskB, ← hfn])) ?_
      rw [← hQ]
      rintro ⟨x, s⟩ (⟨rfl, e, fl, hs⟩ | ⟨rfl, e, hs⟩)
      · dsimp only at hs
        simp only [blkK, Ev_some, seqK, endK_hd hs]
        simp [dst, dskB]
      · exact absurd e hok
end Go.Am

/- Walks: crashes of the reference's disk. -/
set_option linter.unusedVariables false
set_option linter.unusedSimpArgs false
set_option maxRecDepth 10000
namespace Go.Am
open Go.Proofs

theorem rck_loop {v : Nat} {du : List (List UInt8)} {pe : List (Int × List UInt8)} {cr op : Int} {pv : AVal} {po : List Obj} (hp : Pend pe pv po) : ∀ (rest pre : List Int) (s : St), pre.length + rest.length < 1000000 →
    hd [0, 1, 5] [] s = some ⟨[(0, .ref (0, 0) 0), (1, .dat (.sl ((pre ++ rest).map I64))), (5, .dat (.int .i64 pre.length))], dst v du cr op pv po⟩ →
    Ev (loopLim (exec KJ l23_0) s) fun q => (q.1 = .ret ∧ okK rest pe.length = false ∧ hd [4] [] q.2 = some ⟨[(4, .dat (.int .i64 2))], dst v du cr op pv po⟩) ∨
      (q.1 = .exit 0 ∧ okK rest pe.length = true ∧ hd [0, 1] [] q.2 = some ⟨[(0, .ref (0, 0) 0), (1, .dat (.sl ((pre ++ rest).map I64)))], dst v du cr op pv po⟩) := by
  intro rest
  induction rest with
  | nil =>
    intro pre s hl hs
    apply ev_loop
    rcases hp with ⟨rfl, rfl, rfl⟩ | ⟨v2, rfl, rfl⟩ <;> simp [hs, dst, dskB, okK]
  | cons k rest ih =>
    intro pre s hl hs
    apply ev_loop
    rw [List.length_cons] at hl
    have hx : Ix pre.length := by unfold Ix; omega
    have ih2 := ih (pre ++ [k])
    by_cases hk : 0 ≤ k ∧ k < pe.length
    · have hok : okK (k :: rest) pe.length = okK rest pe.length := by simp [okK, hk.1, hk.2]
      have e1 : pre ++ k :: rest = (pre ++ [k]) ++ rest := by simp
      have hk1 : ¬ k < 0 := by omega
      have hk2 : ¬ (pe.length : Int) ≤ k := by omega
      rw [hok, e1]
      generalize hQ : (fun q : AEx × St => (q.1 = .ret ∧ okK rest pe.length = false ∧ hd [4] [] q.2 = some ⟨[(4, .dat (.int .i64 2))], dst v du cr op pv po⟩) ∨
        (q.1 = .exit 0 ∧ okK rest pe.length = true ∧ hd [0, 1] [] q.2 = some ⟨[(0, .ref (0, 0) 0), (1, .dat (.sl ((pre ++ [k] ++ rest).map I64)))], dst v du cr op pv po⟩)) = Q at ih2 ⊢
      rcases hp with ⟨rfl, rfl, rfl⟩ | ⟨v2, rfl, rfl⟩
      · simp at hk
        omega
      · simp [hs, dst, dskB, hx, hk1, hk2]
        refine Ev.mono (ih2 _ (by simp; omega) (by simp [dst, dskB])) (fun _ h => h)
    · have hok : okK (k :: rest) pe.length = false := by
        simp only [okK, List.all_cons]
        by_cases h0 : 0 ≤ k
        · have h1 : ¬ k < pe.length := fun h => hk ⟨h0, h⟩
          simp [h1]
        · simp [h0]
      rw [hok]
      by_cases hk1 : k < 0
      · rcases hp with ⟨rfl, rfl, rfl⟩ | ⟨v2, rfl, rfl⟩ <;> simp [hs, dst, dskB, hx, hk1]
      · have hk2 : (pe.length : Int) ≤ k := by omega
        rcases hp with ⟨rfl, rfl, rfl⟩ | ⟨v2, rfl, rfl⟩
        · have hk3 : 0 ≤ k := by omega
          simp [hs, dst, dskB, hx, hk1, hk3]
        · simp [hs, dst, dskB, hx, hk1, hk2]

def inPost (env0 : List (Nat × AVal)) (st : Store) (t : Bool) (q : AEx × St) : Prop := q.1 = .exit 4 ∧ hd [0, 1, 6, 7] [] q.2 = some ⟨env0 ++ [(7, .dat (.bool t))], st⟩

theorem in_loop (st : Store) (k : Nat) (a : AVal) : ∀ (rest pre : List Int) (s : St), pre.length + rest.length < 1000000 →
    hd [0, 1, 6, 7, 8] [] s = some ⟨[(0, a), (1, .dat (.sl ((pre ++ rest).map I64))), (6, .dat (.int .i64 k)), (7, .dat (.bool (decide ((k : Int) ∈ pre)))), (8, .dat (.int .i64 pre.length))], st⟩ →
    Ev (loopLim (exec KJ l23_1) s) (inPost [(0, a), (1, .dat (.sl ((pre ++ rest).map I64))), (6, .dat (.int .i64 k))] st (decide ((k : Int) ∈ pre ++ rest))) := by
  intro rest
  induction rest with
  | nil =>
    intro pre s hl hs
    apply ev_loop
    generalize hT : decide ((k : Int) ∈ pre) = t at *
    simp [hs, inPost, hT]
  | cons x rest ih =>
    intro pre s hl hs
    apply ev_loop
    rw [List.length_cons] at hl
    have hx : Ix pre.length := by unfold Ix; omega
    have ih2 := ih (pre ++ [x])
    have e1 : pre ++ x :: rest = (pre ++ [x]) ++ rest := by simp
    rw [← e1] at ih2
    generalize hQ : inPost _ st (decide ((k : Int) ∈ pre ++ x :: rest)) = Q at ih2 ⊢
    by_cases hk : (k : Int) ∈ pre
    · have h1 : decide ((k : Int) ∈ pre ++ [x]) = true := by simp [hk]
      rw [h1] at ih2
      simp [hs, hx, hk]
      refine Ev.mono (ih2 _ (by simp; omega) (by simp)) (fun _ h => h)
    · by_cases hkx : x = k
      · have h1 : decide ((k : Int) ∈ pre ++ [x]) = true := by simp [hkx]
        rw [h1] at ih2
        simp [hs, hx, hk, hkx]
        refine Ev.mono (ih2 _ (by simp; omega) (by simp [hkx])) (fun _ h => h)
      · have h1 : decide ((k : Int) ∈ pre ++ [x]) = false := by
          have : ¬ (k : Int) = x := fun h => hkx h.symm
          simp [hk, this]
        rw [h1] at ih2
        simp [hs, hx, hk, hkx]
        refine Ev.mono (ih2 _ (by simp; omega) (by simp)) (fun _ h => h)

def rcwPost (v v2 n : Nat) (cr op : Int) (pe : List (Int × List UInt8)) (du : List (List UInt8)) (q : AEx × St) : Prop := q.1 = .exit 2 ∧
  hd [0] [] q.2 = some ⟨[(0, .ref (0, 0) 0)], [((0,0), dskB (.rsl (0, 1) v 1 0 n) (.rsl (0, 2) v2 2 0 pe.length) cr op), ((0,1), .arr 1 v false (du.map Bs)), ((0,2), .arr 2 v2 false (pe.map pnd))]⟩

theorem rcw_loop (v v2 n : Nat) (cr op : Int) (keep : List Int) (hkl : keep.length < 1000000) : ∀ (rest pre : List (Int × List UInt8)) (s : St) (du : List (List UInt8)), (∀ w ∈ rest, 0 ≤ w.1 ∧ w.1 < n) → pre.length + rest.length < 1000000000 → du.length = n →
    hd [0, 1, 6] [] s = some ⟨[(0, .ref (0,0) 0), (1, .dat (.sl (keep.map I64))), (6, .dat (.int .i64 pre.length))],
      [((0,0), dskB (.rsl (0, 1) v 1 0 n) (.rsl (0, 2) v2 2 0 (pre ++ rest).length) cr op), ((0,1), .arr 1 v false (du.map Bs)), ((0,2), .arr 2 v2 false ((pre ++ rest).map pnd))]⟩ →
    Ev (loopLim (exec KJ l23_2) s) (rcwPost v v2 n cr op (pre ++ rest) (crashW keep pre.length rest du)) := by
  intro rest
  induction rest with
  | nil =>
    intro pre s du h hi hl hs
    apply ev_loop
    simp [hs, crashW, rcwPost, dskB]
  | cons w rest ih =>
    intro pre s du h hi hl hs
    apply ev_loop
    rw [List.length_cons] at hi
    obtain ⟨h1, h2⟩ := h w (by simp)
    have hx : Ix pre.length := by unfold Ix; omega
    obtain ⟨d, hd, hd'⟩ := get_at' du (i := w.1.toNat) (by omega)
    have e1 : pre ++ w :: rest = (pre ++ [w]) ++ rest := by simp
    have ih2 := ih (pre ++ [w])
    rw [← e1, show (pre ++ [w]).length = pre.length + 1 from by simp] at ih2
    have hin := fun st a s h => in_loop st pre.length a keep [] s (by simpa using hkl) h
    rw [crashW]
    by_cases hk : (pre.length : Int) ∈ keep
    · rw [if_pos hk]
      generalize hQ : rcwPost v v2 n cr op (pre ++ w :: rest) (crashW keep (pre.length + 1) rest (du.set w.1.toNat w.2)) = Q
      simp [hs, dskB, hx]
      simp only [ev_bnd_iff]
      refine Ev.mono (hin _ _ _ (by simp; exact ⟨rfl, rfl⟩)) ?_
      rintro ⟨_, s⟩ ⟨rfl, hs⟩
      simp [hk] at hs
      simp [hs, dskB, hx, h1, h2, hd, hd', hl]
      rw [← hQ]
      refine Ev.mono (ih2 _ (du.set w.1.toNat w.2) (fun w h' => h w (by simp [h'])) (by omega) (by simp [hl]) (by simp [dskB])) (fun _ h => h)
    · rw [if_neg hk]
      generalize hQ : rcwPost v v2 n cr op (pre ++ w :: rest) (crashW keep (pre.length + 1) rest du) = Q
      simp [hs, dskB, hx]
      simp only [ev_bnd_iff]
      refine Ev.mono (hin _ _ _ (by simp; exact ⟨rfl, rfl⟩)) ?_
      rintro ⟨_, s⟩ ⟨rfl, hs⟩
      simp [hk] at hs
      simp [hs, dskB, hx]
      rw [← hQ]
      refine Ev.mono (ih2 _ du (fun w h' => h w (by simp [h'])) (by omega) hl (by simp [dskB])) (fun _ h => h)

theorem rcrash_run {v : Nat} {du : List (List UInt8)} {pe : List (Int × List UInt8)} {cr op : Int} {pv : AVal} {po : List Obj} (hp : Pend pe pv po) (h : ∀ w ∈ pe, 0 ≤ w.1 ∧ w.1 < du.length) (hl : pe.length < 1000000) (keep : List Int) (hk : keep.length < 1000000) (h1 : 0 ≤ cr) (h2 : cr < 1000000) :
    KJ 23 [.ref (0, 0) 0, .dat (.sl (keep.map I64))] (dsk v du cr op pv po) =
      if okK keep pe.length then some (.dat (.int .i64 0), dsk v (crashW keep 0 pe du) (cr + 1) op .nils po) else some (.dat (.int .i64 2), dsk v du cr op pv po) := by
  have a1 : cr + 1 < 1000000000000000 := by omega
  have a2 : -1000000000000000 < cr + 1 := by omega
  have hck := fun s hh => rck_loop (v := v) (du := du) (cr := cr) (op := op) hp keep [] s (by simpa using hk) hh
  rw [List.nil_append] at hck
  rcases hp with ⟨rfl, rfl, rfl⟩ | ⟨v2, rfl, rfl⟩
  · generalize hQ : (fun q : AEx × St => (q.1 = .ret ∧ okK keep ([] : List (Int × List UInt8)).length = false ∧ _) ∨ _) = Q at hck
    by_cases hok : okK keep ([] : List (Int × List UInt8)).length = true
    · rw [if_pos hok]
      refine callT_ev (fn := fn23) rfl rfl ?_
      simp [runFun_eq, dsk, dskB]
      simp only [ev_bnd_iff]
      refine Ev.mono (hck _ (by simp [dst, dskB])) ?_
      rw [← hQ]
      rintro ⟨x, s⟩ (⟨rfl, e, hs⟩ | ⟨rfl, e, hs⟩)
      · rw [hok] at e; cases e
      · simp at hs
        simp [hs, dst, dskB]
        simp only [ev_bnd_iff]
        apply ev_loop
        simp [a1, a2, crashW]
    · rw [if_neg hok]
      refine callT_ev (fn := fn23) rfl rfl ?_
      simp [runFun_eq, dsk, dskB]
      simp only [ev_bnd_iff]
      refine Ev.mono (hck _ (by simp [dst, dskB])) ?_
      rw [← hQ]
      rintro ⟨x, s⟩ (⟨rfl, e, hs⟩ | ⟨rfl, e, hs⟩)
      · dsimp only at hs
        simp only [blkK, Ev_some, seqK, endK_hd hs]
        simp [dst, dskB]
      · exact absurd e hok
  · have hcw := fun s hh => rcw_loop v v2 du.length cr op keep hk pe [] s du h (by simp; omega) rfl hh
    rw [List.nil_append] at hcw
    generalize hQ : (fun q : AEx × St => (q.1 = .ret ∧ okK keep pe.length = false ∧ _) ∨ _) = Q at hck
    by_cases hok : okK keep pe.length = true
    · rw [if_pos hok]
      refine callT_ev (fn := fn23) rfl rfl ?_
      simp [runFun_eq, dsk, dskB]
      simp only [ev_bnd_iff]
      refine Ev.mono (hck _ (by simp [dst, dskB])) ?_
      rw [← hQ]
      rintro ⟨x, s⟩ (⟨rfl, e, hs⟩ | ⟨rfl, e, hs⟩)
      · rw [hok] at e; cases e
      · simp at hs
        simp [hs, dst, dskB]
        simp only [ev_bnd_iff]
        refine Ev.mono (hcw _ (by simp [dskB])) ?_
        rintro ⟨x, s⟩ ⟨rfl, hs⟩
        simp at hs
        simp [hs, dskB, a1, a2, crashW_len]
    · rw [if_neg hok]
      refine callT_ev (fn := fn23) rfl rfl ?_
      simp [runFun_eq, dsk, dskB]
      simp only [ev_bnd_iff]
      refine Ev.mono (hck _ (by simp [dst, dskB])) ?_
      rw [← hQ]
      rintro ⟨x, s⟩ (⟨rfl, e, hs⟩ | ⟨rfl, e, hs⟩)
      · dsimp only at hs
        simp only [blkK, Ev_some, seqK, endK_hd hs]
        simp [dst, dskB]
      · exact absurd e hok
end Go.Am

/- Plain laws: numbers in bytes, frames, images, records. -/
set_option linter.unusedVariables false
set_option linter.unusedSimpArgs false
namespace Go.Am

theorem ofNat_toNat_lt {n : Nat} (h : n < 256) : (UInt8.ofNat n).toNat = n := by
  rw [UInt8.toNat_ofNat']
  exact Nat.mod_eq_of_lt (by simpa using h)

theorem ofNat_toNat (n : Nat) : (UInt8.ofNat n).toNat = n % 256 := by
  rw [UInt8.toNat_ofNat']

theorem num4_sum {x : Nat} (h : x < 4294967296) (r : List UInt8) : num4 (sumB x ++ r) = x := by
  simp only [num4, sumB, List.cons_append, List.nil_append, List.getD_cons_zero, List.getD_cons_succ, ofNat_toNat]
  omega

theorem pos_ne {α : Type} {l : List α} (h : l ≠ []) : 0 < l.length := List.length_pos_iff.2 h
theorem flatMap_same {α β : Type} {f g : α → List β} : ∀ {l : List α}, (∀ a ∈ l, f a = g a) → l.flatMap f = l.flatMap g
  | [], _ => rfl
  | a :: l, h => by rw [List.flatMap_cons, List.flatMap_cons, h a (by simp), flatMap_same fun b hb => h b (by simp [hb])]
theorem uintB_ne (n : Nat) : uintB n ≠ [] := by
  rw [uintB]
  split <;> simp

/-- the bytes of a number, read again -/
theorem uintB_low : ∀ (n : Nat) (r : List UInt8), low (uintB n).length (uintB n ++ r) = n := by
  intro n
  induction n using Nat.strongRecOn with
  | _ n ih =>
    intro r
    rw [uintB]
    split
    · rename_i h
      have := ih (n / 128) (by omega) r
      simp only [List.length_cons, List.cons_append, low, this, ofNat_toNat]
      omega
    · simp only [List.length_cons, List.length_nil, List.cons_append, List.nil_append, low, ofNat_toNat]
      omega

theorem uintB_lead : ∀ (n m : Nat) (r : List UInt8), (uintB n).length ≤ m → lead m (uintB n ++ r) + 1 = (uintB n).length := by
  intro n
  induction n using Nat.strongRecOn with
  | _ n ih =>
    intro m r hm
    rw [uintB] at hm ⊢
    split
    · rename_i h
      rw [if_pos h, List.length_cons] at hm
      obtain ⟨m, rfl⟩ : ∃ k, m = k + 1 := ⟨m - 1, by omega⟩
      have := ih (n / 128) (by omega) m r (by omega)
      simp only [List.length_cons, List.cons_append, lead, ofNat_toNat]
      rw [if_pos (by omega)]
      omega
    · rename_i h
      rw [if_neg h, List.length_singleton] at hm
      obtain ⟨m, rfl⟩ : ∃ k, m = k + 1 := ⟨m - 1, by omega⟩
      simp only [List.length_cons, List.length_nil, List.cons_append, List.nil_append, lead, ofNat_toNat]
      rw [if_neg (by omega)]

/-- the last byte is no zero, if there are more -/
theorem uintB_last : ∀ (n : Nat) (r : List UInt8), 1 < (uintB n).length → (uintB n ++ r).getD ((uintB n).length - 1) 0 ≠ 0 := by
  intro n
  induction n using Nat.strongRecOn with
  | _ n ih =>
    intro r h
    rw [uintB] at h ⊢
    split
    · rename_i hn
      rw [if_pos hn, List.length_cons] at h
      rw [List.length_cons, List.cons_append]
      by_cases h1 : 1 < (uintB (n / 128)).length
      · have := ih (n / 128) (by omega) r h1
        rw [show (uintB (n / 128)).length + 1 - 1 = ((uintB (n / 128)).length - 1) + 1 from by omega, List.getD_cons_succ]
        exact this
      · have h2 : (uintB (n / 128)).length = 1 := by
          have := uintB_ne (n / 128)
          have : 0 < (uintB (n / 128)).length := pos_ne this
          omega
        have h3 : ¬ 128 ≤ n / 128 := by
          intro h4
          rw [uintB, if_pos h4, List.length_cons] at h2
          have := pos_ne (uintB_ne (n / 128 / 128))
          omega
        rw [h2, uintB, if_neg h3]
        simp only [Nat.add_sub_cancel, List.cons_append, List.nil_append, List.getD_cons_succ, List.getD_cons_zero]
        intro h0
        have := congrArg UInt8.toNat h0
        rw [ofNat_toNat] at this
        have h5 : (0 : UInt8).toNat = 0 := rfl
        omega
    · rename_i hn
      rw [if_neg hn, List.length_singleton] at h
      omega

theorem uintB_le9 : ∀ (k n : Nat), n < 128 ^ (k + 1) → (uintB n).length ≤ k + 1
  | 0, n, h => by
    rw [uintB, if_neg (by omega)]
    simp
  | k + 1, n, h => by
    rw [uintB]
    split
    · have := uintB_le9 k (n / 128) (by rw [Nat.pow_succ] at h; omega)
      simp only [List.length_cons]
      omega
    · simp

theorem decB_uint (n : Nat) (r : List UInt8) (hn : n < 1000000000) : decB (uintB n ++ r) = (n, (uintB n).length, 0) := by
  have h9 : (uintB n).length ≤ 5 := uintB_le9 4 n (by omega)
  have hl := uintB_lead n 9 r (by omega)
  have hp := pos_ne (uintB_ne n)
  have hlow := uintB_low n r
  unfold decB
  rw [if_neg (by omega), if_neg (by rw [List.length_append]; omega), hl, hlow, if_neg ?_, if_neg (by omega)]
  rintro ⟨h1, h2⟩
  refine uintB_last n r (by omega) ?_
  rw [show (uintB n).length - 1 = lead 9 (uintB n ++ r) from by omega]
  exact h2

theorem fopB_seal (p r : List UInt8) (hp : p.length < 1000000000) : fopB (sealB p ++ r) = (p, r, 0) := by
  have hd : decB (sealB p ++ r) = (p.length, (uintB p.length).length, 0) := by
    rw [sealB, List.append_assoc, List.append_assoc]
    exact decB_uint _ _ hp
  have hs : (sumB (crcB (uintB p.length ++ p))).length = 4 := rfl
  unfold fopB
  rw [hd]
  dsimp only
  have e1 : (sealB p ++ r).take ((uintB p.length).length + p.length) = uintB p.length ++ p := by
    rw [sealB, List.append_assoc, List.take_left' (by simp)]
  have e2 : (sealB p ++ r).drop ((uintB p.length).length + p.length) = sumB (crcB (uintB p.length ++ p)) ++ r := by
    rw [sealB, List.append_assoc, List.drop_left' (by simp)]
  have e3 : ((sealB p ++ r).drop (uintB p.length).length).take p.length = p := by
    rw [sealB, List.append_assoc, List.append_assoc, List.drop_left' rfl, List.take_left' rfl]
  have e4 : (sealB p ++ r).drop ((uintB p.length).length + p.length + 4) = r := by
    rw [← List.drop_drop, e2, List.drop_left' hs]
  rw [if_neg (by simp), if_neg (by simp [sealB, hs]; omega), e1, e2, e3, e4, if_pos (by rw [List.take_left' hs])]

/-! ### images -/

theorem secB_64 (e n j k : Nat) (d : List UInt8) : (secB e n j k d).length = 64 := by
  have : (chunk d j).length ≤ 52 := by simp [chunk]; omega
  simp [secB, sumB, le2]
  omega

theorem secB_ep {e : Nat} (he : e < 4294967296) (n j k : Nat) (d : List UInt8) : num4 (secB e n j k d) = e := by
  simp only [secB, List.append_assoc]
  exact num4_sum he _

theorem secB_no {n : Nat} (hn : n < 4294967296) (e j k : Nat) (d : List UInt8) : num4 ((secB e n j k d).drop 4) = n := by
  simp only [secB, List.append_assoc]
  rw [List.drop_left' (by rfl)]
  exact num4_sum hn _

theorem secB_cnt {k : Nat} (hk : k < 65536) (e n j : Nat) (d : List UInt8) : recB.num2 (secB e n j k d) = k := by
  have h : (secB e n j k d) = (sumB e ++ sumB n ++ le2 j) ++ (le2 k ++ (chunk d j ++ List.replicate (52 - (chunk d j).length) 0)) := by simp [secB]
  have e1 : (secB e n j k d).getD 10 0 = UInt8.ofNat k := by rw [h]; rfl
  have e2 : (secB e n j k d).getD 11 0 = UInt8.ofNat (k / 256) := by rw [h]; rfl
  rw [recB.num2, e1, e2, ofNat_toNat, ofNat_toNat]
  omega

theorem secB_pay (e n j k : Nat) (d : List UInt8) : (secB e n j k d).drop 12 = chunk d j ++ List.replicate (52 - (chunk d j).length) 0 := by
  have h : (secB e n j k d) = (sumB e ++ sumB n ++ le2 j ++ le2 k) ++ (chunk d j ++ List.replicate (52 - (chunk d j).length) 0) := by simp [secB]
  rw [h, List.drop_left' (by rfl)]

theorem pad_chunk (d : List UInt8) (k j : Nat) (hj : j < k) (hk : d.length ≤ 52 * k) : chunk d j ++ List.replicate (52 - (chunk d j).length) 0 = ((d ++ List.replicate (52 * k - d.length) (0 : UInt8)).drop (52 * j)).take 52 := by
  rw [List.drop_append, List.take_append, List.drop_replicate, List.take_replicate]
  congr 1
  congr 1
  simp only [chunk, List.length_take, List.length_drop]
  omega

theorem take_chunks {α : Type} (Z : List α) : ∀ m, (List.range m).flatMap (fun j => (Z.drop (52 * j)).take 52) = Z.take (52 * m)
  | 0 => by simp
  | m + 1 => by
    rw [List.range_succ, List.flatMap_append, take_chunks Z m]
    simp only [List.flatMap_cons, List.flatMap_nil, List.append_nil]
    rw [Nat.mul_succ, List.take_add]

theorem pay_image (p : List UInt8) (n e : Nat) : ∃ r, pay (imageB p n e) = sealB p ++ r := by
  refine ⟨List.replicate (52 * cntB (sealB p) - (sealB p).length) 0, ?_⟩
  have hc : (sealB p).length ≤ 52 * cntB (sealB p) := by unfold cntB; omega
  have h1 : pay (imageB p n e) = (List.range (cntB (sealB p))).flatMap fun j => (((sealB p) ++ List.replicate (52 * cntB (sealB p) - (sealB p).length) (0 : UInt8)).drop (52 * j)).take 52 := by
    rw [pay, imageB, List.flatMap_map]
    refine flatMap_same fun j hj => ?_
    rw [secB_pay, pad_chunk _ _ _ (List.mem_range.1 hj) hc]
  rw [h1, take_chunks, List.take_of_length_le (by simp; omega)]

theorem imageB_get (p : List UInt8) (n e j : Nat) (h : j < (imageB p n e).length) : (imageB p n e)[j]? = some (secB e n j (imageB p n e).length (sealB p)) := by
  rw [imageB_len] at h
  rw [imageB_len]
  simp [imageB, h]

end Go.Am

/- Plain laws: what a disk records, and what is left of it when only some sectors arrive. -/
set_option linter.unusedVariables false
set_option linter.unusedSimpArgs false
namespace Go.Am

theorem setAll_get : ∀ (W : List (List UInt8)) (du : List (List UInt8)) (a i : Nat), a + W.length ≤ du.length → (setAll du a W)[i]? = if a ≤ i ∧ i < a + W.length then W[i - a]? else du[i]?
  | [], du, a, i, h => by
    rw [setAll, if_neg]
    simp
    try omega
  | s :: r, du, a, i, h => by
    rw [List.length_cons] at h
    rw [setAll, setAll_get r (du.set a s) (a + 1) i (by rw [List.length_set]; omega)]
    by_cases h1 : a + 1 ≤ i ∧ i < a + 1 + r.length
    · rw [if_pos h1, if_pos (by rw [List.length_cons]; omega), show i - a = (i - (a + 1)) + 1 from by omega, List.getElem?_cons_succ]
    · rw [if_neg h1]
      by_cases h2 : i = a
      · subst h2
        rw [if_pos (by rw [List.length_cons]; omega), Nat.sub_self, List.getElem?_set_self (by omega)]
        rfl
      · rw [if_neg (by rw [List.length_cons]; omega), List.getElem?_set_ne (fun h => h2 h.symm)]

theorem slice_eq {α : Type} {l l' : List α} {a k : Nat} (h : ∀ i, a ≤ i → i < a + k → l[i]? = l'[i]?) : (l.drop a).take k = (l'.drop a).take k := by
  apply List.ext_getElem?
  intro i
  rw [List.getElem?_take, List.getElem?_take]
  split
  · rw [List.getElem?_drop, List.getElem?_drop]
    exact h _ (by omega) (by omega)
  · rfl

theorem getD_of {α : Type} {l l' : List α} {a : Nat} {d : α} (h : l[a]? = l'[a]?) : l.getD a d = l'.getD a d := by
  rw [List.getD_eq_getElem?_getD, List.getD_eq_getElem?_getD, h]

theorem recB_congr {all all' : List (List UInt8)} {a n : Nat} (hl : all.length = all'.length) (h0 : all[a]? = all'[a]?) (h : ∀ i, a ≤ i → i < a + recB.num2 (all.getD a []) → all[i]? = all'[i]?) : recB all a n = recB all' a n := by
  unfold recB
  rw [hl, getD_of h0]
  rw [getD_of h0] at h
  rw [slice_eq h]

theorem recB_k {all : List (List UInt8)} {a n : Nat} {p : List UInt8} {k : Nat} (h : recB all a n = some (p, k)) : k = recB.num2 (all.getD a []) ∧ num4 (all.getD a []) ≠ 0 := by
  unfold recB at h
  split at h
  · cases h
  · split at h
    · cases h
    · rename_i h1
      split at h
      · cases h
      · split at h
        · cases h
          exact ⟨rfl, fun h0 => h1 (.inl h0)⟩
        · cases h

/-- what a record's sectors are -/
theorem recB_sec {all : List (List UInt8)} {a n : Nat} {p : List UInt8} {k : Nat} (h : recB all a n = some (p, k)) {j : Nat} (hj : j < k) :
    (imageB p n (num4 (all.getD a []))).length = k ∧ all[a + j]? = some (secB (num4 (all.getD a [])) n j k (sealB p)) := by
  obtain ⟨h1, h2, h3, h4⟩ := recB_some h
  have hl : (imageB p n (num4 (all.getD a []))).length = k := by rw [h4, List.length_take, List.length_drop]; omega
  refine ⟨hl, ?_⟩
  have hg := imageB_get p n (num4 (all.getD a [])) j (by omega)
  rw [hl, h4, List.getElem?_take, if_pos hj, List.getElem?_drop] at hg
  exact hg

theorem recB_written {all : List (List UInt8)} {a n ep : Nat} {b : List UInt8} (h : (all.drop a).take (imageB b n ep).length = imageB b n ep) (hfit : a + (imageB b n ep).length ≤ all.length) (hN : all.length ≤ 4096) (hep : 1 ≤ ep) (hep2 : ep < 4294967296) (hb : b.length < 1000000000) :
    recB all a n = some (b, (imageB b n ep).length) := by
  have hpos : 0 < (imageB b n ep).length := by
    rw [imageB_len]
    unfold cntB
    have : 4 ≤ (sealB b).length := by simp [sealB, sumB]; omega
    omega
  have h0 : all[a]? = some (secB ep n 0 (imageB b n ep).length (sealB b)) := by
    have := imageB_get b n ep 0 hpos
    have h2 : ((all.drop a).take (imageB b n ep).length)[0]? = all[a]? := by rw [List.getElem?_take, if_pos hpos, List.getElem?_drop]; rfl
    rw [← h2, h]
    exact this
  have hg : all.getD a [] = secB ep n 0 (imageB b n ep).length (sealB b) := by rw [List.getD_eq_getElem?_getD, h0]; rfl
  have e1 : num4 (all.getD a []) = ep := by rw [hg, secB_ep hep2]
  have e2 : recB.num2 (all.getD a []) = (imageB b n ep).length := by rw [hg, secB_cnt (by omega)]
  obtain ⟨r, hr⟩ := pay_image b n ep
  unfold recB
  rw [e1, e2, h, hr, fopB_seal b r hb, if_neg (by omega), if_neg (by omega), if_neg (by simp), if_pos rfl]

def Chain (all : List (List UInt8)) : Nat → Nat → List (List UInt8) → Nat → Prop
  | a, _, [], e => a = e
  | a, n, p :: rs, e => ∃ k, recB all a n = some (p, k) ∧ Chain all (a + k) (n + 1) rs e

theorem chain_le {all : List (List UInt8)} : ∀ {rs : List (List UInt8)} {a n e : Nat}, Chain all a n rs e → a + rs.length ≤ e
  | [], a, n, e, h => by simp only [Chain] at h; simp; omega
  | p :: rs, a, n, e, ⟨k, h1, h2⟩ => by
    have := chain_le h2
    have := recB_some h1
    simp only [List.length_cons]
    omega

theorem chain_mono {all all' : List (List UInt8)} (hl : all.length = all'.length) : ∀ {rs : List (List UInt8)} {a n e : Nat}, (∀ i, i < e → all[i]? = all'[i]?) → Chain all a n rs e → Chain all' a n rs e
  | [], a, n, e, _, h => h
  | p :: rs, a, n, e, he, ⟨k, h1, h2⟩ => by
    have hle := chain_le h2
    have hs := recB_some h1
    obtain ⟨hk, _⟩ := recB_k h1
    refine ⟨k, ?_, chain_mono hl he h2⟩
    rw [← h1]
    refine (recB_congr hl (he a (by omega)) fun i hi hi2 => he i ?_).symm
    rw [← hk] at hi2
    omega

theorem chain_snoc {all : List (List UInt8)} {p : List UInt8} {k : Nat} : ∀ {rs : List (List UInt8)} {a n e : Nat}, Chain all a n rs e → recB all e (n + rs.length) = some (p, k) → Chain all a n (rs ++ [p]) (e + k)
  | [], a, n, e, h, hr => by
    simp only [Chain] at h
    subst h
    exact ⟨k, hr, rfl⟩
  | q :: rs, a, n, e, ⟨k', h1, h2⟩, hr => by
    refine ⟨k', h1, chain_snoc h2 ?_⟩
    rw [List.length_cons] at hr
    rw [show n + 1 + rs.length = n + (rs.length + 1) from by omega]
    exact hr

theorem scan_chain {all : List (List UInt8)} : ∀ {rs : List (List UInt8)} {f a n e : Nat}, Chain all a n rs e → recB all e (n + rs.length) = none → all.length + 1 ≤ f + a → a ≤ all.length → scanB f all a n = (rs, e)
  | [], f, a, n, e, h, hr, hf, ha => by
    simp only [Chain] at h
    subst h
    obtain ⟨f, rfl⟩ : ∃ g, f = g + 1 := ⟨f - 1, by omega⟩
    rw [scanB]
    rw [show n + ([] : List (List UInt8)).length = n from rfl] at hr
    rw [hr]
  | q :: rs, f, a, n, e, ⟨k', h1, h2⟩, hr, hf, ha => by
    have hs := recB_some h1
    obtain ⟨f, rfl⟩ : ∃ g, f = g + 1 := ⟨f - 1, by omega⟩
    rw [scanB, h1]
    rw [List.length_cons] at hr
    have := scan_chain (f := f) h2 (by rw [show n + 1 + rs.length = n + (rs.length + 1) from by omega]; exact hr) (by omega) (by omega)
    dsimp only
    rw [this]

structure JInv (all rs : List (List UInt8)) (e m : Nat) : Prop where
  len : ∀ d ∈ all, d.length = 64
  ch : Chain all 0 0 rs e
  le : e ≤ all.length
  ep : ∀ d ∈ all, num4 d ≤ m
  no : ∀ d ∈ all, num4 d = 0 ∨ num4 (d.drop 4) ≤ rs.length
  stop : recB all e rs.length = none

theorem JInv.scan {all rs : List (List UInt8)} {e m : Nat} (h : JInv all rs e m) : scanB (all.length + 1) all 0 0 = (rs, e) :=
  scan_chain h.ch (by rw [Nat.zero_add]; exact h.stop) (by omega) (by omega)

theorem mostB_le : ∀ (l : List (List UInt8)) (k m : Nat), k ≤ m → (∀ d ∈ l, num4 d ≤ m) → mostB l k ≤ m
  | [], k, m, hk, _ => hk
  | d :: l, k, m, hk, h => by
    have := h d (by simp)
    exact mostB_le l _ m (by split <;> omega) fun x hx => h x (by simp [hx])

theorem mostB_ge : ∀ (l : List (List UInt8)) (k : Nat), k ≤ mostB l k ∧ ∀ d ∈ l, num4 d ≤ mostB l k
  | [], k => ⟨Nat.le_refl _, by simp⟩
  | d :: l, k => by
    obtain ⟨h1, h2⟩ := mostB_ge l (if k < num4 d then num4 d else k)
    rw [mostB]
    have h3 : k ≤ (if k < num4 d then num4 d else k) ∧ num4 d ≤ (if k < num4 d then num4 d else k) := by split <;> omega
    refine ⟨by omega, fun x hx => ?_⟩
    rcases List.mem_cons.1 hx with rfl | hx
    · omega
    · exact h2 x hx

/-- the epochs are below the next one -/
theorem JInv.most {all rs : List (List UInt8)} {e m : Nat} (h : JInv all rs e m) : mostB all 0 ≤ m ∧ JInv all rs e (mostB all 0) :=
  ⟨mostB_le _ _ _ (by omega) h.ep, h.len, h.ch, h.le, (mostB_ge all 0).2, h.no, h.stop⟩

theorem zero_num (n : Nat) : ∀ d ∈ List.replicate n zeroS, num4 d = 0 := by
  intro d hd
  rw [List.eq_of_mem_replicate hd]
  rfl

theorem inv_zero (n : Nat) : JInv (List.replicate n zeroS) [] 0 0 := by
  refine ⟨fun d hd => by rw [List.eq_of_mem_replicate hd]; rfl, rfl, by omega, fun d hd => by rw [zero_num n d hd]; omega, fun d hd => .inl (zero_num n d hd), ?_⟩
  unfold recB
  split
  · rfl
  · rename_i h
    have hz : num4 ((List.replicate n zeroS).getD 0 []) = 0 := by
      rw [List.getD_eq_getElem?_getD, List.getElem?_replicate, if_pos (by simp at h; omega)]
      rfl
    rw [if_pos (.inl hz)]

section
variable {all rs : List (List UInt8)} {e m ep : Nat} {b : List UInt8}

theorem mem_get {l : List (List UInt8)} {d : List UInt8} (h : d ∈ l) : ∃ i : Nat, l[i]? = some d := List.getElem?_of_mem h

theorem inv_write (h : JInv all rs e m) (hep : m < ep) (hep2 : ep < 4294967296) (hfit : e + (imageB b rs.length ep).length ≤ all.length) (hN : all.length ≤ 4096) (hrs : rs.length < 1000000) (hb : b.length < 1000000000) :
    JInv (setAll all e (imageB b rs.length ep)) (rs ++ [b]) (e + (imageB b rs.length ep).length) ep := by
  have hget := fun i => setAll_get (imageB b rs.length ep) all e i hfit
  have hlen := setAll_len (imageB b rs.length ep) all e
  have himg := imageB_get b rs.length ep
  have h64 := imageB_64 b rs.length ep
  have hslice : ((setAll all e (imageB b rs.length ep)).drop e).take (imageB b rs.length ep).length = imageB b rs.length ep := by
    apply List.ext_getElem?
    intro i
    rw [List.getElem?_take]
    split
    · rw [List.getElem?_drop, hget, if_pos (by omega), Nat.add_sub_cancel_left]
    · rw [List.getElem?_eq_none (by omega)]
  have hrec : recB (setAll all e (imageB b rs.length ep)) e rs.length = some (b, (imageB b rs.length ep).length) := recB_written hslice (by omega) (by omega) (by omega) hep2 hb
  have hsec : ∀ d ∈ setAll all e (imageB b rs.length ep), d ∈ all ∨ ∃ j, j < (imageB b rs.length ep).length ∧ d = secB ep rs.length j (imageB b rs.length ep).length (sealB b) := by
    intro d hd
    obtain ⟨i, hi⟩ := mem_get hd
    rw [hget] at hi
    split at hi
    · rename_i hc
      rw [himg _ (by omega)] at hi
      exact .inr ⟨i - e, by omega, (Option.some.inj hi).symm⟩
    · exact .inl (List.mem_of_getElem? hi)
  refine ⟨fun d hd => ?_, ?_, by omega, fun d hd => ?_, fun d hd => ?_, ?_⟩
  · rcases hsec d hd with hd | ⟨j, _, rfl⟩
    · exact h.len d hd
    · exact secB_64 ..
  · refine chain_snoc (chain_mono hlen.symm (fun i hi => ?_) h.ch) (by rw [Nat.zero_add]; exact hrec)
    rw [hget, if_neg (by omega)]
  · rcases hsec d hd with hd | ⟨j, _, rfl⟩
    · have := h.ep d hd; omega
    · rw [secB_ep hep2]; omega
  · rw [List.length_append, List.length_singleton]
    rcases hsec d hd with hd | ⟨j, _, rfl⟩
    · rcases h.no d hd with h0 | h0
      · exact .inl h0
      · exact .inr (by omega)
    · exact .inr (by rw [secB_no (by omega)]; omega)
  · rw [List.length_append, List.length_singleton]
    cases hr : recB (setAll all e (imageB b rs.length ep)) (e + (imageB b rs.length ep).length) (rs.length + 1) with
    | none => rfl
    | some pk =>
      exfalso
      obtain ⟨p, k⟩ := pk
      obtain ⟨r1, r2, r3, r4⟩ := recB_some hr
      obtain ⟨_, hz⟩ := recB_k hr
      obtain ⟨_, h0⟩ := recB_sec hr (j := 0) (by omega)
      have h1 := h0
      rw [Nat.add_zero, hget, if_neg (by omega)] at h1
      have hm := List.mem_of_getElem? h1
      have hlt := num4_lt ((setAll all e (imageB b rs.length ep)).getD (e + (imageB b rs.length ep).length) [])
      rcases h.no _ hm with hh | hh
      · rw [secB_ep hlt] at hh
        exact hz hh
      · rw [secB_no (by omega)] at hh
        omega

theorem inv_mix (h : JInv all rs e m) (hep : m < ep) (hep2 : ep < 4294967296) (hfit : e + (imageB b rs.length ep).length ≤ all.length) (hN : all.length ≤ 4096) (hrs : rs.length < 1000000)
    {mix : List (List UInt8)} (hl : mix.length = all.length) (hmix : ∀ i : Nat, mix[i]? = all[i]? ∨ mix[i]? = (setAll all e (imageB b rs.length ep))[i]?) (hne : mix ≠ setAll all e (imageB b rs.length ep)) : JInv mix rs e ep := by
  have hget := fun i => setAll_get (imageB b rs.length ep) all e i hfit
  have hlen := setAll_len (imageB b rs.length ep) all e
  have himg := imageB_get b rs.length ep
  have hsec : ∀ (i : Nat) (d : List UInt8), mix[i]? = some d → all[i]? = some d ∨ (e ≤ i ∧ i < e + (imageB b rs.length ep).length ∧ d = secB ep rs.length (i - e) (imageB b rs.length ep).length (sealB b)) := by
    intro i d hd
    rcases hmix i with hi | hi
    · rw [hi] at hd; exact .inl hd
    · rw [hi, hget] at hd
      split at hd
      · rename_i hc
        rw [himg _ (by omega)] at hd
        exact .inr ⟨hc.1, hc.2, (Option.some.inj hd).symm⟩
      · exact .inl hd
  refine ⟨fun d hd => ?_, ?_, by rw [hl]; exact h.le, fun d hd => ?_, fun d hd => ?_, ?_⟩
  · obtain ⟨i, hi⟩ := mem_get hd
    rcases hsec i d hi with hi | ⟨_, _, rfl⟩
    · exact h.len d (List.mem_of_getElem? hi)
    · exact secB_64 ..
  · refine chain_mono hl.symm (fun i hi => ?_) h.ch
    rcases hmix i with hi' | hi'
    · exact hi'.symm
    · rw [hi', hget, if_neg (by omega)]
  · obtain ⟨i, hi⟩ := mem_get hd
    rcases hsec i d hi with hi | ⟨_, _, rfl⟩
    · have := h.ep d (List.mem_of_getElem? hi); omega
    · rw [secB_ep hep2]; omega
  · obtain ⟨i, hi⟩ := mem_get hd
    rcases hsec i d hi with hi | ⟨_, _, rfl⟩
    · exact h.no d (List.mem_of_getElem? hi)
    · exact .inr (by rw [secB_no (by omega)]; omega)
  · cases hr : recB mix e rs.length with
    | none => rfl
    | some pk =>
      exfalso
      obtain ⟨p, k⟩ := pk
      obtain ⟨r1, r2, r3, r4⟩ := recB_some hr
      obtain ⟨hk, hz⟩ := recB_k hr
      have hlt := num4_lt (mix.getD e [])
      obtain ⟨_, h0⟩ := recB_sec hr (j := 0) (by omega)
      have hs := fun j (hj : j < k) => (recB_sec hr hj).2
      generalize hep' : num4 (mix.getD e []) = ep' at *
      rcases hsec _ _ h0 with hold | ⟨_, _, hnew⟩
      · -- its first sector is an old one: so are all
        have hep3 : ep' ≤ m := by
          have := h.ep _ (List.mem_of_getElem? hold)
          rwa [secB_ep hlt] at this
        have hall : ∀ i, e ≤ i → i < e + k → mix[i]? = all[i]? := by
          intro i hi1 hi2
          have h1 := hs (i - e) (by omega)
          rw [show e + (i - e) = i from by omega] at h1
          rcases hsec _ _ h1 with h2 | ⟨_, _, h2⟩
          · rw [h1, h2]
          · have := congrArg num4 h2
            rw [secB_ep hlt, secB_ep hep2] at this
            omega
        have : recB mix e rs.length = recB all e rs.length := recB_congr hl (hall e (by omega) (by omega)) fun i hi1 hi2 => hall i hi1 (by rw [← hk] at hi2; exact hi2)
        rw [hr, h.stop] at this
        cases this
      · -- its first sector is a new one: so are all
        have hep3 : ep' = ep := by
          have := congrArg num4 hnew
          rwa [secB_ep hlt, secB_ep hep2] at this
        have hkk : k = (imageB b rs.length ep).length := by
          have h1 : mix.getD e [] = secB ep' rs.length 0 k (sealB p) := by
            rw [Nat.add_zero] at h0
            rw [List.getD_eq_getElem?_getD, h0]; rfl
          have h2 := congrArg recB.num2 hnew
          rw [secB_cnt (by omega), secB_cnt (by omega)] at h2
          exact h2
        apply hne
        apply List.ext_getElem?
        intro i
        rcases hmix i with hi | hi
        · rw [hget]
          split
          · rename_i hc
            have h1 := hs (i - e) (by omega)
            rw [show e + (i - e) = i from by omega] at h1
            rcases hsec _ _ h1 with h2 | ⟨_, _, h2⟩
            · exfalso
              have := h.ep _ (List.mem_of_getElem? h2)
              rw [secB_ep hlt] at this
              omega
            · rw [h1, h2, himg _ (by omega)]
          · exact hi
        · exact hi

/-- at least one sector has changed -/
theorem inv_changed (h : JInv all rs e m) (hep : m < ep) (hep2 : ep < 4294967296) (hfit : e + (imageB b rs.length ep).length ≤ all.length) : ∃ i : Nat, i < all.length ∧ all[i]? ≠ (setAll all e (imageB b rs.length ep))[i]? := by
  have hpos : 0 < (imageB b rs.length ep).length := by
    rw [imageB_len]
    unfold cntB
    have : 4 ≤ (sealB b).length := by simp [sealB, sumB]; omega
    omega
  refine ⟨e, by omega, fun h0 => ?_⟩
  rw [setAll_get _ _ _ _ hfit, if_pos (by omega), Nat.sub_self, imageB_get _ _ _ _ hpos] at h0
  have := h.ep _ (List.mem_of_getElem? h0)
  rw [secB_ep hep2] at this
  omega
end
end Go.Am

/- Walks: both disks side by side. -/
set_option linter.unusedVariables false
set_option linter.unusedSimpArgs false
set_option maxRecDepth 10000
namespace Go.Am
open Go.Proofs

abbrev Pe := List (Int × List UInt8)

def shOK (sh : Option Nat) (pe : Pe) : Prop := (sh = none ∧ pe = []) ∨ ∃ v2, sh = some v2 ∧ pe ≠ []
def pvC (id : Id) (sh : Option Nat) (pe : Pe) : AVal := match sh with
  | none => .nils
  | some v2 => .rsl id v2 2 0 pe.length
def poC (sh : Option Nat) (pe : Pe) : List Obj := match sh with
  | none => []
  | some v2 => [.arr 2 v2 false (pe.map pnd)]

theorem shOK.pend {sh : Option Nat} {pe : Pe} (h : shOK sh pe) : Pend pe (pvC (0, 2) sh pe) (poC sh pe) := by
  rcases h with ⟨rfl, rfl⟩ | ⟨v2, rfl, _⟩
  · exact .inl ⟨rfl, rfl, rfl⟩
  · exact .inr ⟨v2, rfl, rfl⟩

def dskC (v : Nat) (du : List (List UInt8)) (cr op : Int) (sh : Option Nat) (pe : Pe) : List Obj := dsk v du cr op (pvC (0, 2) sh pe) (poC sh pe)

/-- a disk's state is in order -/
structure DOK (n : Nat) (du : List (List UInt8)) (pe : Pe) (m : Nat) : Prop where
  len : du.length = n
  n4 : n ≤ 4096
  h64 : ∀ d ∈ du, d.length = 64
  p64 : ∀ w ∈ pe, w.2.length = 64
  pin : ∀ w ∈ pe, 0 ≤ w.1 ∧ w.1 < n
  pl : pe.length ≤ m

def wrE (n : Nat) (i : Int) (b : List UInt8) : Int := if i < 0 ∨ (n : Int) ≤ i then 2 else if b.length ≠ 64 then 1 else 0
def wrP (n : Nat) (pe : Pe) (i : Int) (b : List UInt8) : Pe := if i < 0 ∨ (n : Int) ≤ i ∨ b.length ≠ 64 then pe else pe ++ [(i, b)]

theorem wr_nil {n : Nat} {pe : Pe} {i : Int} {b : List UInt8} (h : wrP n pe i b = []) : pe = [] := by
  unfold wrP at h
  split at h
  · exact h
  · simp at h

theorem wr_ok {n m : Nat} {du : List (List UInt8)} {pe : Pe} (h : DOK n du pe m) (i : Int) (b : List UInt8) : DOK n du (wrP n pe i b) (m + 1) := by
  unfold wrP
  split
  · exact ⟨h.len, h.n4, h.h64, h.p64, h.pin, by have := h.pl; omega⟩
  · rename_i hc
    refine ⟨h.len, h.n4, h.h64, fun w hw => ?_, fun w hw => ?_, by have := h.pl; simp; omega⟩
    · rcases List.mem_append.1 hw with hw | hw
      · exact h.p64 w hw
      · simp at hw; subst hw
        by_cases h64 : b.length = 64
        · exact h64
        · exact absurd (.inr (.inr h64)) hc
    · rcases List.mem_append.1 hw with hw | hw
      · exact h.pin w hw
      · simp at hw; subst hw
        constructor
        · show 0 ≤ i
          by_cases h0 : i < 0
          · exact absurd (.inl h0) hc
          · omega
        · show i < n
          by_cases h0 : (n : Int) ≤ i
          · exact absurd (.inr (.inl h0)) hc
          · omega

theorem syncS_mem : ∀ (pe : Pe) (du : List (List UInt8)), (∀ d ∈ du, d.length = 64) → (∀ w ∈ pe, w.2.length = 64) → ∀ d ∈ syncS pe du, d.length = 64
  | [], du, h1, _ => h1
  | w :: r, du, h1, h2 => by
    refine syncS_mem r _ (fun d hd => ?_) (fun w hw => h2 w (by simp [hw]))
    rcases List.mem_or_eq_of_mem_set hd with hd | rfl
    · exact h1 d hd
    · exact h2 w (by simp)
theorem crashW_mem (keep : List Int) : ∀ (pe : Pe) (k : Nat) (du : List (List UInt8)), (∀ d ∈ du, d.length = 64) → (∀ w ∈ pe, w.2.length = 64) → ∀ d ∈ crashW keep k pe du, d.length = 64
  | [], k, du, h1, _ => h1
  | w :: r, k, du, h1, h2 => by
    refine crashW_mem keep r _ _ (fun d hd => ?_) (fun w hw => h2 w (by simp [hw]))
    split at hd
    · rcases List.mem_or_eq_of_mem_set hd with hd | rfl
      · exact h1 d hd
      · exact h2 w (by simp)
    · exact h1 d hd

theorem sync_ok {n m : Nat} {du : List (List UInt8)} {pe : Pe} (h : DOK n du pe m) : DOK n (syncS pe du) [] m :=
  ⟨by rw [syncS_len, h.len], h.n4, syncS_mem pe du h.h64 h.p64, by simp, by simp, by simp⟩
theorem crash_ok {n m : Nat} {du : List (List UInt8)} {pe : Pe} (h : DOK n du pe m) (keep : List Int) : DOK n (crashW keep 0 pe du) [] m :=
  ⟨by rw [crashW_len, h.len], h.n4, crashW_mem keep pe 0 du h.h64 h.p64, by simp, by simp, by simp⟩

section
variable {n m v : Nat} {du : List (List UInt8)} {pe : Pe} {cr op : Int} {sh : Option Nat}

theorem write_c (h : DOK n du pe m) (hm : m < 1000000) (hs : shOK sh pe) (i : Int) (b : List UInt8) :
    ∃ sh', shOK sh' (wrP n pe i b) ∧ KJ 15 [.ref (0, 0) 0, .dat (.int .i64 i), .dat (.sl (b.map B))] (dskC v du cr op sh pe) = some (.dat (.int .i64 (wrE n i b)), dskC v du cr op sh' (wrP n pe i b)) := by
  by_cases hc : i < 0 ∨ (n : Int) ≤ i ∨ b.length ≠ 64
  · obtain ⟨e, h1, h2⟩ := write_bad (v := v) (cr := cr) (op := op) (du := du) hs.pend (i := i) (b := b) (by rw [h.len]; exact hc)
    refine ⟨sh, by rw [wrP, if_pos hc]; exact hs, ?_⟩
    rw [wrP, if_pos hc, dskC, h1, h2, h.len]
    congr 4
    unfold wrE
    split
    · rfl
    · rename_i h3
      rw [if_pos]
      rcases hc with hc | hc | hc
      · exact absurd (.inl hc) h3
      · exact absurd (.inr hc) h3
      · exact hc
  · have h0 : 0 ≤ i := by
      by_cases h0 : i < 0
      · exact absurd (.inl h0) hc
      · omega
    have h1 : i < n := by
      by_cases h1 : (n : Int) ≤ i
      · exact absurd (.inr (.inl h1)) hc
      · omega
    have h2 : b.length = 64 := by
      by_cases h2 : b.length = 64
      · exact h2
      · exact absurd (.inr (.inr h2)) hc
    have hi : ((i.toNat : Nat) : Int) = i := by omega
    obtain ⟨v2, hw⟩ := write_run (v := v) (cr := cr) (op := op) (du := du) hs.pend (by have := h.pl; omega) (i := i.toNat) (by have := h.len; omega) h2
    rw [hi] at hw
    refine ⟨some v2, .inr ⟨v2, rfl, by rw [wrP, if_neg hc]; simp⟩, ?_⟩
    rw [wrP, if_neg hc, dskC, hw, wrE, if_neg (by omega), if_neg (by simp [h2])]
    simp [dskC, pvC, poC]

theorem rwrite_c (h : DOK n du pe m) (hm : m < 1000000) (hs : shOK sh pe) (i : Int) (b : List UInt8) :
    ∃ sh', shOK sh' (wrP n pe i b) ∧ KJ 20 [.ref (0, 0) 0, .dat (.int .i64 i), .dat (.sl (b.map B))] (dskC v du cr op sh pe) = some (.dat (.int .i64 (wrE n i b)), dskC v du cr op sh' (wrP n pe i b)) := by
  by_cases hc : i < 0 ∨ (n : Int) ≤ i ∨ b.length ≠ 64
  · obtain ⟨e, h1, h2⟩ := rwrite_bad (v := v) (cr := cr) (op := op) (du := du) hs.pend (i := i) (b := b) (by rw [h.len]; exact hc)
    refine ⟨sh, by rw [wrP, if_pos hc]; exact hs, ?_⟩
    rw [wrP, if_pos hc, dskC, h1, h2, h.len]
    congr 4
    unfold wrE
    split
    · rfl
    · rename_i h3
      rw [if_pos]
      rcases hc with hc | hc | hc
      · exact absurd (.inl hc) h3
      · exact absurd (.inr hc) h3
      · exact hc
  · have h0 : 0 ≤ i := by
      by_cases h0 : i < 0
      · exact absurd (.inl h0) hc
      · omega
    have h1 : i < n := by
      by_cases h1 : (n : Int) ≤ i
      · exact absurd (.inr (.inl h1)) hc
      · omega
    have h2 : b.length = 64 := by
      by_cases h2 : b.length = 64
      · exact h2
      · exact absurd (.inr (.inr h2)) hc
    have hi : ((i.toNat : Nat) : Int) = i := by omega
    obtain ⟨v2, hw⟩ := rwrite_run (v := v) (cr := cr) (op := op) (du := du) hs.pend (by have := h.pl; omega) (i := i.toNat) (by have := h.len; omega) h2
    rw [hi] at hw
    refine ⟨some v2, .inr ⟨v2, rfl, by rw [wrP, if_neg hc]; simp⟩, ?_⟩
    rw [wrP, if_neg hc, dskC, hw, wrE, if_neg (by omega), if_neg (by simp [h2])]
    simp [dskC, pvC, poC]

theorem sync_c (h : DOK n du pe m) (hm : m < 1000000) (hs : shOK sh pe) : KJ 16 [.ref (0, 0) 0] (dskC v du cr op sh pe) = some (.dat (.int .i64 0), dsk v (syncS pe du) cr op .nils (poC sh pe)) := by
  rcases hs with ⟨rfl, rfl⟩ | ⟨v2, rfl, _⟩
  · exact sync_none v du cr op
  · exact sync_run v v2 du cr op pe (by rw [h.len]; exact h.pin) (by have := h.pl; omega)
theorem rsync_c (h : DOK n du pe m) (hm : m < 1000000) (hs : shOK sh pe) : KJ 21 [.ref (0, 0) 0] (dskC v du cr op sh pe) = some (.dat (.int .i64 0), dsk v (syncS pe du) cr op .nils (poC sh pe)) := by
  rcases hs with ⟨rfl, rfl⟩ | ⟨v2, rfl, _⟩
  · exact rsync_none v du cr op
  · exact rsync_run v v2 du cr op pe (by rw [h.len]; exact h.pin) (by have := h.pl; omega)

/-- what both disks read -/
theorem reads_c {v' : Nat} {cr' op' : Int} {sh' : Option Nat} (h : DOK n du pe m) (hm : m < 1000000) (hs : shOK sh pe) (hs' : shOK sh' pe) (i : Int) :
    ∃ (X : List UInt8) (e : Int), KJ 24 [.ref (0, 0) 0, .dat (.int .i64 i)] (dskC v du cr op sh pe) = some (.tup [.dat (.sl (X.map B)), .dat (.int .i64 e)], dskC v du cr op sh pe) ∧
      KJ 25 [.ref (0, 0) 0, .dat (.int .i64 i)] (dskC v' du cr' op' sh' pe) = some (.tup [.dat (.sl (X.map B)), .dat (.int .i64 e)], dskC v' du cr' op' sh' pe) := by
  by_cases hi : i < 0 ∨ (du.length : Int) ≤ i
  · exact ⟨[], 2, read_out hs.pend hi, rread_out hs'.pend hi⟩
  · have e : ((i.toNat : Nat) : Int) = i := by omega
    have h1 := read_run (v := v) (cr := cr) (op := op) (du := du) hs.pend (by have := h.pl; omega) h.h64 h.p64 (i := i.toNat) (by omega)
    have h2 := rread_run (v := v') (cr := cr') (op := op') (du := du) hs'.pend (by have := h.pl; omega) h.h64 h.p64 (i := i.toNat) (by omega)
    rw [e] at h1 h2
    exact ⟨_, _, h1, h2⟩
end
end Go.Am

/- The law JournalDisks, walked. -/
set_option linter.unusedVariables false
set_option linter.unusedSimpArgs false
set_option maxRecDepth 10000
namespace Go.Am
open Go.Proofs

abbrev Act := Int × Int × List UInt8 × List Int
@[simp] def Ac (x : Act) : Dat := .agg [.int .i64 x.1, .int .i64 x.2.1, Bs x.2.2.1, .sl (x.2.2.2.map I64)]

def smallA (l : List Act) : Bool := l.all fun x => decide (x.2.2.1.length ≤ 400) && decide (x.2.2.2.length ≤ 40)

theorem small_loop : ∀ (rest pre : List Act) (s : St), pre.length + rest.length ≤ 30 →
    hd [0, 5] [] s = some ⟨[(0, .dat (.sl ((pre ++ rest).map Ac))), (5, .dat (.int .i64 pre.length))], []⟩ →
    Ev (loopLim (exec KJ l17_0) s) fun q => (q.1 = .ret ∧ smallA rest = false ∧ hd [4] [] q.2 = some ⟨[(4, .dat (.bool false))], []⟩) ∨ (q.1 = .exit 0 ∧ smallA rest = true ∧ hd [] [] q.2 = some ⟨[], []⟩) := by
  intro rest
  induction rest with
  | nil =>
    intro pre s hl hs
    apply ev_loop
    simp [hs, smallA]
  | cons x rest ih =>
    intro pre s hl hs
    apply ev_loop
    rw [List.length_cons] at hl
    obtain ⟨kind, i, b, keep⟩ := x
    have hx : Ix pre.length := by unfold Ix; omega
    have e1 : pre ++ (kind, i, b, keep) :: rest = (pre ++ [(kind, i, b, keep)]) ++ rest := by simp
    by_cases hb : b.length ≤ 400
    · have hb1 : ¬ (400 : Int) < b.length := by omega
      have hb2 : ¬ 400 < b.length := by omega
      by_cases hk : keep.length ≤ 40
      · have hk1 : ¬ (40 : Int) < keep.length := by omega
        have hk2 : ¬ 40 < keep.length := by omega
        have e : smallA ((kind, i, b, keep) :: rest) = smallA rest := by simp [smallA, hb, hk]
        rw [e]
        have ih2 := ih (pre ++ [(kind, i, b, keep)])
        generalize hQ : (fun q : AEx × St => (q.1 = .ret ∧ smallA rest = false ∧ hd [4] [] q.2 = some ⟨[(4, .dat (.bool false))], []⟩) ∨ (q.1 = .exit 0 ∧ smallA rest = true ∧ hd [] [] q.2 = some ⟨[], []⟩)) = Q at ih2 ⊢
        simp [hs, hx, hb1, hb2, hk1, hk2]
        refine Ev.mono (ih2 _ (by simp; omega) (by simp)) (fun _ h => h)
      · have hk1 : (40 : Int) < keep.length := by omega
        have hk2 : 40 < keep.length := by omega
        have e : smallA ((kind, i, b, keep) :: rest) = false := by simp [smallA, hk]
        rw [e]
        simp [hs, hx, hb1, hb2, hk1, hk2]
    · have hb1 : (400 : Int) < b.length := by omega
      have hb2 : 400 < b.length := by omega
      have e : smallA ((kind, i, b, keep) :: rest) = false := by simp [smallA, hb]
      rw [e]
      simp [hs, hx, hb1, hb2]

theorem small_run (l : List Act) (n : Int) : KJ 17 [.dat (.sl (l.map Ac)), .dat (.int .i64 n)] [] = some (.dat (.bool (decide (l.length ≤ 30) && decide (n ≤ 20) && smallA l)), []) := by
  refine callT_ev (fn := fn17) rfl rfl ?_
  by_cases hl : l.length ≤ 30
  · have hl1 : ¬ (30 : Int) < l.length := by omega
    have hl2 : ¬ 30 < l.length := by omega
    by_cases hn : n ≤ 20
    · have hn1 : ¬ 20 < n := by omega
      simp [runFun_eq, hl1, hl2, hl, hn, hn1]
      simp only [ev_bnd_iff]
      refine Ev.mono (small_loop l [] _ (by simpa using hl) (by simp)) ?_
      rintro ⟨x, s⟩ (⟨rfl, e, hs⟩ | ⟨rfl, e, hs⟩)
      · dsimp only at hs
        simp only [blkK, Ev_some, seqK, endK_hd hs, e]
        simp
      · simp at hs
        simp [hs, e]
    · have hn1 : 20 < n := by omega
      simp [runFun_eq, hl1, hl2, hl, hn, hn1]
  · have hl1 : (30 : Int) < l.length := by omega
    have hl2 : 30 < l.length := by omega
    simp [runFun_eq, hl1, hl2, hl]

def psL (id : Id) (sh : Option Nat) (pe : Pe) : Store := match sh with
  | none => []
  | some v2 => [(id, .arr 2 v2 false (pe.map pnd))]

def dls (v1 v2 : Nat) (du : List (List UInt8)) (cr : Int) (sh1 sh2 : Option Nat) (pe : Pe) : Store :=
  ((6, 0), dskB (.rsl (6, 1) v1 1 0 du.length) (pvC (6, 2) sh1 pe) cr 0) :: ((8, 0), dskB (.rsl (8, 1) v2 1 0 du.length) (pvC (8, 2) sh2 pe) cr 0) ::
    (((6, 1), .arr 1 v1 false (du.map Bs)) :: psL (6, 2) sh1 pe ++ ((8, 1), .arr 1 v2 false (du.map Bs)) :: psL (8, 2) sh2 pe)

set_option maxHeartbeats 8000000 in
theorem disks_loop (n : Nat) : ∀ (rest pre : List Act) (v1 v2 m : Nat) (du : List (List UInt8)) (cr : Int) (sh1 sh2 : Option Nat) (pe : Pe) (s : St), pre.length + rest.length ≤ 30 → smallA rest = true → DOK n du pe m → m ≤ pre.length → 0 ≤ cr → cr ≤ pre.length → shOK sh1 pe → shOK sh2 pe →
    hd [1, 5, 7, 9] [1, 5, 7] s = some ⟨[(1, .dat (.sl ((pre ++ rest).map Ac))), (5, .ref (6, 0) 0), (7, .ref (8, 0) 0), (9, .dat (.int .i64 pre.length))], dls v1 v2 du cr sh1 sh2 pe⟩ →
    Ev (loopLim (exec KJ l4_0) s) fun q => q.1 = .exit 0 := by
  intro rest
  induction rest with
  | nil =>
    intro pre v1 v2 m du cr sh1 sh2 pe s hl hsm hD hm h1 h2 hs1 hs2 hs
    apply ev_loop
    rcases hs1 with ⟨rfl, rfl⟩ | ⟨w1, rfl, g1⟩ <;> rcases hs2 with ⟨rfl, h0⟩ | ⟨w2, rfl, g2⟩ <;> simp [hs, dls, dskB, pvC, psL]
  | cons x rest ih =>
    intro pre v1 v2 m du cr sh1 sh2 pe s hl hsm hD hm h1 h2 hs1 hs2 hs
    apply ev_loop
    rw [List.length_cons] at hl
    obtain ⟨kind, i, b, keep⟩ := x
    simp only [smallA, List.all_cons, Bool.and_eq_true, decide_eq_true_eq] at hsm
    obtain ⟨⟨hb, hkl⟩, hsm⟩ := hsm
    have hx : Ix pre.length := by unfold Ix; omega
    have ih2 := ih (pre ++ [(kind, i, b, keep)])
    have e1 : pre ++ (kind, i, b, keep) :: rest = (pre ++ [(kind, i, b, keep)]) ++ rest := by simp
    rw [← e1, show (pre ++ [(kind, i, b, keep)]).length = pre.length + 1 from by simp] at ih2
    have hpl := hD.pl
    by_cases hk2 : kind = 2
    · -- Sync
      subst hk2
      have hD2 := sync_ok hD
      have q1 := sync_c (v := v1) (cr := cr) (op := 0) hD (by omega) hs1
      have q2 := rsync_c (v := v2) (cr := cr) (op := 0) hD (by omega) hs2
      obtain ⟨X, e, r1, r2⟩ := reads_c (v := v1) (v' := v2) (cr := cr) (op := 0) (cr' := cr) (op' := 0) (sh := none) (sh' := none) hD2 (by omega) (.inl ⟨rfl, rfl⟩) (.inl ⟨rfl, rfl⟩) i
      have hsame := same_run X X
      rw [show (X == X) = true from by simp] at hsame
      have p1 := pending_run (v := v1) (du := syncS pe du) (cr := cr) (op := 0) (.inl ⟨rfl, rfl, rfl⟩ : Pend [] .nils [])
      have p2 := rpending_run (v := v2) (du := syncS pe du) (cr := cr) (op := 0) (.inl ⟨rfl, rfl, rfl⟩ : Pend [] .nils [])
      generalize hS : syncS pe du = S at *
      have hSl : S.length = du.length := by rw [← hS, syncS_len]
      generalize hQ : (fun q : AEx × St => q.1 = AEx.exit 0) = Q at ih2 ⊢
      rcases hs1 with ⟨rfl, rfl⟩ | ⟨w1, rfl, g1⟩ <;> rcases hs2 with ⟨rfl, h0⟩ | ⟨w2, rfl, g2⟩
      all_goals
        simp [dskC, dsk, dskB, pvC, poC] at q1 q2 r1 r2 p1 p2
        simp [hs, dls, dskB, pvC, psL, hx, q1, q2, r1, r2, p1, p2, hsame]
        refine Ev.mono (ih2 v1 v2 m S cr none none [] _ (by omega) hsm hD2 (by omega) h1 (by omega) (.inl ⟨rfl, rfl⟩) (.inl ⟨rfl, rfl⟩) (by simp [dls, dskB, pvC, psL, hSl])) (fun _ h => h)
    · by_cases hk0 : kind = 0
      · subst hk0
        obtain ⟨b', hb', hsec⟩ : ∃ b' : List UInt8, b'.length ≤ 400 ∧ ((b.length = 3 ∧ b' = b) ∨ (b.length ≠ 3 ∧ KJ 19 [.dat (.sl (b.map B))] [] = some (.dat (.sl (b'.map B)), []))) := by
          by_cases h3 : b.length = 3
          · exact ⟨b, hb, .inl ⟨h3, rfl⟩⟩
          · exact ⟨_, by simp; omega, .inr ⟨h3, sector_run b (by omega)⟩⟩
        have hD2 := wr_ok hD i b'
        obtain ⟨sh1', o1, q1⟩ := write_c (v := v1) (cr := cr) (op := 0) hD (by omega) hs1 i b'
        obtain ⟨sh2', o2, q2⟩ := rwrite_c (v := v2) (cr := cr) (op := 0) hD (by omega) hs2 i b'
        obtain ⟨X, e, r1, r2⟩ := reads_c (v := v1) (v' := v2) (cr := cr) (op := 0) (cr' := cr) (op' := 0) hD2 (by omega) o1 o2 i
        have hsame := same_run X X
        rw [show (X == X) = true from by simp] at hsame
        have p1 := pending_run (v := v1) (du := du) (cr := cr) (op := 0) o1.pend
        have p2 := rpending_run (v := v2) (du := du) (cr := cr) (op := 0) o2.pend
        have hnil := wr_nil (n := n) (pe := pe) (i := i) (b := b')
        generalize wrP n pe i b' = pe' at *
        generalize wrE n i b' = er at *
        generalize hQ : (fun q : AEx × St => q.1 = AEx.exit 0) = Q at ih2 ⊢
        rcases hs1 with ⟨rfl, rfl⟩ | ⟨w1, rfl, g1⟩ <;> rcases hs2 with ⟨rfl, h0⟩ | ⟨w2, rfl, g2⟩
        · rcases o1 with ⟨rfl, rfl⟩ | ⟨w1, rfl, g1⟩ <;> rcases o2 with ⟨rfl, h0⟩ | ⟨w2, rfl, g2⟩
          · simp [dskC, dsk, dskB, pvC, poC] at q1 q2 r1 r2 p1 p2
            rcases hsec with ⟨h3, rfl⟩ | ⟨h3, hsec⟩
            · have h3' : (b'.length : Int) = 3 := by omega
              simp [hs, dls, dskB, pvC, psL, hx, q1, q2, r1, r2, p1, p2, hsame, h3, h3']
              refine Ev.mono (ih2 v1 v2 (m + 1) du cr none none [] _ (by omega) hsm hD2 (by omega) h1 (by omega) (.inl ⟨rfl, rfl⟩) (.inl ⟨rfl, rfl⟩) (by simp [dls, dskB, pvC, psL])) (fun _ h => h)
            · have h3' : ¬ (b.length : Int) = 3 := by omega
              simp [hs, dls, dskB, pvC, psL, hx, q1, q2, r1, r2, p1, p2, hsame, h3, h3', hsec]
              refine Ev.mono (ih2 v1 v2 (m + 1) du cr none none [] _ (by omega) hsm hD2 (by omega) h1 (by omega) (.inl ⟨rfl, rfl⟩) (.inl ⟨rfl, rfl⟩) (by simp [dls, dskB, pvC, psL])) (fun _ h => h)
          · exact absurd rfl g2
          · exact absurd h0 g1
          · simp [dskC, dsk, dskB, pvC, poC] at q1 q2 r1 r2 p1 p2
            rcases hsec with ⟨h3, rfl⟩ | ⟨h3, hsec⟩
            · have h3' : (b'.length : Int) = 3 := by omega
              simp [hs, dls, dskB, pvC, psL, hx, q1, q2, r1, r2, p1, p2, hsame, h3, h3']
              refine Ev.mono (ih2 v1 v2 (m + 1) du cr (some w1) (some w2) pe' _ (by omega) hsm hD2 (by omega) h1 (by omega) (.inr ⟨w1, rfl, g1⟩) (.inr ⟨w2, rfl, g2⟩) (by simp [dls, dskB, pvC, psL])) (fun _ h => h)
            · have h3' : ¬ (b.length : Int) = 3 := by omega
              simp [hs, dls, dskB, pvC, psL, hx, q1, q2, r1, r2, p1, p2, hsame, h3, h3', hsec]
              refine Ev.mono (ih2 v1 v2 (m + 1) du cr (some w1) (some w2) pe' _ (by omega) hsm hD2 (by omega) h1 (by omega) (.inr ⟨w1, rfl, g1⟩) (.inr ⟨w2, rfl, g2⟩) (by simp [dls, dskB, pvC, psL])) (fun _ h => h)
        · exact absurd rfl g2
        · exact absurd h0 g1
        · rcases o1 with ⟨rfl, h9⟩ | ⟨x1, rfl, f1⟩
          · exact absurd (hnil h9) g1
          · rcases o2 with ⟨rfl, h9⟩ | ⟨x2, rfl, f2⟩
            · exact absurd (hnil h9) g1
            · simp [dskC, dsk, dskB, pvC, poC] at q1 q2 r1 r2 p1 p2
              rcases hsec with ⟨h3, rfl⟩ | ⟨h3, hsec⟩
              · have h3' : (b'.length : Int) = 3 := by omega
                simp [hs, dls, dskB, pvC, psL, hx, q1, q2, r1, r2, p1, p2, hsame, h3, h3']
                refine Ev.mono (ih2 v1 v2 (m + 1) du cr (some x1) (some x2) pe' _ (by omega) hsm hD2 (by omega) h1 (by omega) (.inr ⟨x1, rfl, f1⟩) (.inr ⟨x2, rfl, f2⟩) (by simp [dls, dskB, pvC, psL])) (fun _ h => h)
              · have h3' : ¬ (b.length : Int) = 3 := by omega
                simp [hs, dls, dskB, pvC, psL, hx, q1, q2, r1, r2, p1, p2, hsame, h3, h3', hsec]
                refine Ev.mono (ih2 v1 v2 (m + 1) du cr (some x1) (some x2) pe' _ (by omega) hsm hD2 (by omega) h1 (by omega) (.inr ⟨x1, rfl, f1⟩) (.inr ⟨x2, rfl, f2⟩) (by simp [dls, dskB, pvC, psL])) (fun _ h => h)
      · by_cases hk3 : kind = 3
        · subst hk3
          have q1 := crash_run (v := v1) (du := du) (cr := cr) (op := 0) hs1.pend (by rw [hD.len]; exact hD.pin) (by omega) keep (by omega) h1 (by omega)
          have q2 := rcrash_run (v := v2) (du := du) (cr := cr) (op := 0) hs2.pend (by rw [hD.len]; exact hD.pin) (by omega) keep (by omega) h1 (by omega)
          by_cases hok : okK keep pe.length = true
          · rw [if_pos hok] at q1 q2
            have hD2 := crash_ok hD keep
            obtain ⟨X, e, r1, r2⟩ := reads_c (v := v1) (v' := v2) (cr := cr + 1) (op := 0) (cr' := cr + 1) (op' := 0) (sh := none) (sh' := none) hD2 (by omega) (.inl ⟨rfl, rfl⟩) (.inl ⟨rfl, rfl⟩) i
            have hsame := same_run X X
            rw [show (X == X) = true from by simp] at hsame
            have p1 := pending_run (v := v1) (du := crashW keep 0 pe du) (cr := cr + 1) (op := 0) (.inl ⟨rfl, rfl, rfl⟩ : Pend [] .nils [])
            have p2 := rpending_run (v := v2) (du := crashW keep 0 pe du) (cr := cr + 1) (op := 0) (.inl ⟨rfl, rfl, rfl⟩ : Pend [] .nils [])
            have hSl := crashW_len keep pe 0 du
            generalize crashW keep 0 pe du = S at *
            generalize hQ : (fun q : AEx × St => q.1 = AEx.exit 0) = Q at ih2 ⊢
            rcases hs1 with ⟨rfl, rfl⟩ | ⟨w1, rfl, g1⟩ <;> rcases hs2 with ⟨rfl, h0⟩ | ⟨w2, rfl, g2⟩
            all_goals
              simp [dskC, dsk, dskB, pvC, poC] at q1 q2 r1 r2 p1 p2
              simp [hs, dls, dskB, pvC, psL, hx, q1, q2, r1, r2, p1, p2, hsame]
              refine Ev.mono (ih2 v1 v2 m S (cr + 1) none none [] _ (by omega) hsm hD2 (by omega) (by omega) (by omega) (.inl ⟨rfl, rfl⟩) (.inl ⟨rfl, rfl⟩) (by simp [dls, dskB, pvC, psL, hSl])) (fun _ h => h)
          · rw [if_neg hok] at q1 q2
            obtain ⟨X, e, r1, r2⟩ := reads_c (v := v1) (v' := v2) (cr := cr) (op := 0) (cr' := cr) (op' := 0) hD (by omega) hs1 hs2 i
            have hsame := same_run X X
            rw [show (X == X) = true from by simp] at hsame
            have p1 := pending_run (v := v1) (du := du) (cr := cr) (op := 0) hs1.pend
            have p2 := rpending_run (v := v2) (du := du) (cr := cr) (op := 0) hs2.pend
            generalize hQ : (fun q : AEx × St => q.1 = AEx.exit 0) = Q at ih2 ⊢
            rcases hs1 with ⟨rfl, rfl⟩ | ⟨w1, rfl, g1⟩ <;> rcases hs2 with ⟨rfl, h0⟩ | ⟨w2, rfl, g2⟩
            · simp [dskC, dsk, dskB, pvC, poC] at q1 q2 r1 r2 p1 p2
              simp [hs, dls, dskB, pvC, psL, hx, q1, q2, r1, r2, p1, p2, hsame]
              refine Ev.mono (ih2 v1 v2 m du cr none none [] _ (by omega) hsm hD (by omega) (by omega) (by omega) (.inl ⟨rfl, rfl⟩) (.inl ⟨rfl, rfl⟩) (by simp [dls, dskB, pvC, psL])) (fun _ h => h)
            · exact absurd rfl g2
            · exact absurd h0 g1
            · simp [dskC, dsk, dskB, pvC, poC] at q1 q2 r1 r2 p1 p2
              simp [hs, dls, dskB, pvC, psL, hx, q1, q2, r1, r2, p1, p2, hsame]
              refine Ev.mono (ih2 v1 v2 m du cr (some w1) (some w2) pe _ (by omega) hsm hD (by omega) (by omega) (by omega) (.inr ⟨w1, rfl, g1⟩) (.inr ⟨w2, rfl, g2⟩) (by simp [dls, dskB, pvC, psL])) (fun _ h => h)
        · obtain ⟨X, e, r1, r2⟩ := reads_c (v := v1) (v' := v2) (cr := cr) (op := 0) (cr' := cr) (op' := 0) hD (by omega) hs1 hs2 i
          have hsame := same_run X X
          rw [show (X == X) = true from by simp] at hsame
          have p1 := pending_run (v := v1) (du := du) (cr := cr) (op := 0) hs1.pend
          have p2 := rpending_run (v := v2) (du := du) (cr := cr) (op := 0) hs2.pend
          generalize hQ : (fun q : AEx × St => q.1 = AEx.exit 0) = Q at ih2 ⊢
          rcases hs1 with ⟨rfl, rfl⟩ | ⟨w1, rfl, g1⟩ <;> rcases hs2 with ⟨rfl, h0⟩ | ⟨w2, rfl, g2⟩
          · simp [dskC, dsk, dskB, pvC, poC] at r1 r2 p1 p2
            simp [hs, dls, dskB, pvC, psL, hx, r1, r2, p1, p2, hsame, hk0, hk2, hk3]
            refine Ev.mono (ih2 v1 v2 m du cr none none [] _ (by omega) hsm hD (by omega) (by omega) (by omega) (.inl ⟨rfl, rfl⟩) (.inl ⟨rfl, rfl⟩) (by simp [dls, dskB, pvC, psL])) (fun _ h => h)
          · exact absurd rfl g2
          · exact absurd h0 g1
          · simp [dskC, dsk, dskB, pvC, poC] at r1 r2 p1 p2
            simp [hs, dls, dskB, pvC, psL, hx, r1, r2, p1, p2, hsame, hk0, hk2, hk3]
            refine Ev.mono (ih2 v1 v2 m du cr (some w1) (some w2) pe _ (by omega) hsm hD (by omega) (by omega) (by omega) (.inr ⟨w1, rfl, g1⟩) (.inr ⟨w2, rfl, g2⟩) (by simp [dls, dskB, pvC, psL])) (fun _ h => h)
end Go.Am

/- The law JournalDisks, walked to its end. -/
set_option linter.unusedVariables false
set_option linter.unusedSimpArgs false
set_option maxRecDepth 10000
namespace Go.Am
open Go.Proofs

theorem nils_loop : ∀ (rest pre : List Act) (s : St), pre.length + rest.length ≤ 30 → smallA rest = true →
    hd [1, 5, 7, 9] [1, 5, 7] s = some ⟨[(1, .dat (.sl ((pre ++ rest).map Ac))), (5, .nilp), (7, .nilp), (9, .dat (.int .i64 pre.length))], []⟩ →
    Ev (loopLim (exec KJ l4_0) s) fun q => q.1 = .exit 0 := by
  intro rest
  induction rest with
  | nil =>
    intro pre s hl hsm hs
    apply ev_loop
    simp [hs]
  | cons x rest ih =>
    intro pre s hl hsm hs
    apply ev_loop
    rw [List.length_cons] at hl
    obtain ⟨kind, i, b, keep⟩ := x
    simp only [smallA, List.all_cons, Bool.and_eq_true, decide_eq_true_eq] at hsm
    obtain ⟨⟨hb, hkl⟩, hsm⟩ := hsm
    have hx : Ix pre.length := by unfold Ix; omega
    have ih2 := ih (pre ++ [(kind, i, b, keep)])
    have e1 : pre ++ (kind, i, b, keep) :: rest = (pre ++ [(kind, i, b, keep)]) ++ rest := by simp
    rw [← e1, show (pre ++ [(kind, i, b, keep)]).length = pre.length + 1 from by simp] at ih2
    have hsame := same_run [] []
    rw [show (([] : List UInt8) == []) = true from rfl] at hsame
    simp at hsame
    have f1 := read_nil i
    have f2 := rread_nil i
    have f3 := pending_nil
    have f4 := rpending_nil
    generalize hQ : (fun q : AEx × St => q.1 = AEx.exit 0) = Q at ih2 ⊢
    by_cases hk2 : kind = 2
    · subst hk2
      simp [hs, hx, sync_nil, rsync_nil, f1, f2, f3, f4, hsame]
      refine Ev.mono (ih2 _ (by omega) hsm (by simp)) (fun _ h => h)
    · by_cases hk0 : kind = 0
      · subst hk0
        by_cases h3 : b.length = 3
        · have h3' : (b.length : Int) = 3 := by omega
          simp [hs, hx, write_nil, rwrite_nil, f1, f2, f3, f4, hsame, h3, h3']
          refine Ev.mono (ih2 _ (by omega) hsm (by simp)) (fun _ h => h)
        · have h3' : ¬ (b.length : Int) = 3 := by omega
          have hsec := sector_run b (by omega)
          generalize b.take 64 ++ List.replicate (64 - b.length) 0 = b' at hsec
          simp [hs, hx, write_nil, rwrite_nil, f1, f2, f3, f4, hsame, h3, h3', hsec]
          refine Ev.mono (ih2 _ (by omega) hsm (by simp)) (fun _ h => h)
      · by_cases hk3 : kind = 3
        · subst hk3
          simp [hs, hx, crash_nil, rcrash_nil, f1, f2, f3, f4, hsame]
          refine Ev.mono (ih2 _ (by omega) hsm (by simp)) (fun _ h => h)
        · simp [hs, hx, f1, f2, f3, f4, hsame, hk0, hk2, hk3]
          refine Ev.mono (ih2 _ (by omega) hsm (by simp)) (fun _ h => h)

theorem dok_zero (n : Nat) (h : n ≤ 4096) : DOK n (List.replicate n zeroS) [] 0 :=
  ⟨by simp, h, fun d hd => by rw [List.eq_of_mem_replicate hd]; rfl, by simp, by simp, by simp⟩

theorem journalDisks_run (lives : KJ 8 [] [] = some (.dat (.bool true), [])) (n : Int) (l : List Act) : KJ 4 [.dat (.int .i64 n), .dat (.sl (l.map Ac))] [] = some (.dat (.bool true), []) := by
  refine callT_ev (fn := fn4) rfl rfl ?_
  have hsm := small_run l n
  by_cases hc : (decide (l.length ≤ 30) && decide (n ≤ 20) && smallA l) = true
  · rw [hc] at hsm
    simp only [Bool.and_eq_true, decide_eq_true_eq] at hc
    obtain ⟨⟨hl, hn⟩, hsa⟩ := hc
    by_cases h1 : 1 ≤ n
    · obtain ⟨k, rfl⟩ : ∃ k : Nat, n = k := ⟨n.toNat, by omega⟩
      obtain ⟨v1, hnd⟩ := newDisk_run k (by omega) (by omega)
      obtain ⟨v2, hrnd⟩ := rnewDisk_run k (by omega) (by omega)
      have hlp := fun s h => disks_loop k l [] v1 v2 0 (List.replicate k zeroS) 0 none none [] s (by simpa using hl) hsa (dok_zero k (by omega)) (by omega) (by omega) (by simp) (.inl ⟨rfl, rfl⟩) (.inl ⟨rfl, rfl⟩) h
      generalize List.replicate k zeroS = Z at *
      simp [dsk, dskB] at hnd hrnd
      simp [runFun_eq, hsm, hnd, hrnd]
      simp only [ev_bnd_iff]
      refine Ev.mono (hlp _ (by simp [dls, dskB, pvC, psL])) ?_
      rintro ⟨_, ⟨env, objs⟩⟩ rfl
      simp [lives]
    · have h2 : n < 1 ∨ 4096 < n := .inl (by omega)
      have hlp := fun s h => nils_loop l [] s (by simpa using hl) hsa h
      simp [runFun_eq, hsm, newDisk_out h2, rnewDisk_out h2]
      simp only [ev_bnd_iff]
      refine Ev.mono (hlp _ (by simp)) ?_
      rintro ⟨_, ⟨env, objs⟩⟩ rfl
      simp [lives]
  · rw [Bool.not_eq_true] at hc
    rw [hc] at hsm
    simp [runFun_eq, hsm, lives]
end Go.Am

/- The abstract machine: what a law is handed reads as data. -/
set_option linter.unusedVariables false
namespace Go.Am

/-- every reading of a row of this type is a datum that fits T -/
def ReadsAs (P : Program) (w : World) (t : TypeId) (T : Dat → Prop) : Prop :=
  ∀ (H : Type) (enc : TypeId × Value → H) (base : Nat) (spare : Nat → Bool) (held : Bool) (fuel : Nat) (cs : List Value) (x : DataW H × List MemPlace),
    DataW.trod enc P w base spare held fuel t cs = some x → ∃ D, RepD (allF w) D cs ∧ T D

def IsInt (k : IntKind) (D : Dat) : Prop := ∃ n, D = .int k n ∧ (Lit.int k n).wf = true
def IsBool (D : Dat) : Prop := ∃ b, D = .bool b
def IsStr (D : Dat) : Prop := ∃ s, D = .str s ∧ s.length ≤ maxLen
def IsSl (T : Dat → Prop) (D : Dat) : Prop := ∃ l, D = .sl l ∧ (∀ d ∈ l, T d) ∧ l.length ≤ maxLen
def IsAgg (Ts : List (Dat → Prop)) (D : Dat) : Prop := ∃ ds : List Dat, D = .agg (ds.flatMap Dat.cells) ∧ ds.length = Ts.length ∧ ∀ (i : Nat) (T : Dat → Prop) (d : Dat), Ts[i]? = some T → ds[i]? = some d → T d

section
variable {P : Program} {w : World} {t e : TypeId}

theorem reads_int {k : IntKind} (ht : P.underlying t = some (.int k)) : ReadsAs P w t (IsInt k) := by
  intro H enc base spare held fuel cs x h
  obtain ⟨n, rfl, _, hw⟩ := DataW.trod_int ht h
  exact ⟨.int k n, by simp [RepD], n, rfl, hw⟩

theorem reads_bool (ht : P.underlying t = some .bool) : ReadsAs P w t IsBool := by
  intro H enc base spare held fuel cs x h
  obtain ⟨b, rfl, _⟩ := DataW.trod_bool ht h
  exact ⟨.bool b, by simp [RepD], b, rfl⟩

theorem reads_string (ht : P.underlying t = some .string) : ReadsAs P w t IsStr := by
  intro H enc base spare held fuel cs x h
  obtain ⟨s, rfl, _, hs⟩ := DataW.trod_string ht h
  exact ⟨.str s.data.toList, by simp [RepD], s.data.toList, rfl, by simpa using hs⟩

theorem reads_slice {T : Dat → Prop} (ht : P.underlying t = some (.slice e)) (hc : 0 < P.cellsOf e) (he : ReadsAs P w e T) : ReadsAs P w t (IsSl T) := by
  intro H enc base spare held fuel cs x h
  rcases DataW.trod_slice ht h with ⟨rfl, _⟩ | ⟨a, len, cap, elems, rest, n, _, rfl, _, hb, hl, hm, hlen, hel, _, _⟩
  · exact ⟨.sl [], by simp [RepD], [], rfl, by simp, by simp⟩
  · have each : ∀ i, i < len → ∃ D cs, RepD (allF w) D cs ∧ T D ∧ cs.length = P.cellsOf e ∧ (∀ j, j < P.cellsOf e → w.cell? ((a.add (i * P.cellsOf e)).add j) = cs[j]?) := by
      intro i hi
      have h1 := hel i hi
      have h2 : elems[i]? = some (elems[i]'(by omega)) := by simp
      rw [h2, Option.bind_eq_some_iff] at h1
      obtain ⟨cs', hcs, hy⟩ := h1
      obtain ⟨D, hD, hT⟩ := he H enc base spare held n cs' _ hy
      obtain ⟨_, hlen', hcell⟩ := World.cells?_some hcs
      exact ⟨D, cs', hD, hT, hlen', hcell⟩
    have list : ∀ m, m ≤ len → ∃ l : List Dat, l.length = m ∧ (∀ d ∈ l, T d) ∧ ∀ i d, l[i]? = some d → ∃ cs, RepD (allF w) d cs ∧ cs.length = P.cellsOf e ∧ (∀ j, j < P.cellsOf e → w.cell? ((a.add (i * P.cellsOf e)).add j) = cs[j]?) := by
      intro m
      induction m with
      | zero => intro _; exact ⟨[], rfl, by simp, by simp⟩
      | succ m ih =>
        intro hm'
        obtain ⟨l, l1, l2, l3⟩ := ih (by omega)
        obtain ⟨D, cs, d1, d2, d3, d4⟩ := each m (by omega)
        refine ⟨l ++ [D], by simp [l1], fun d hd => ?_, fun i d hi => ?_⟩
        · rcases List.mem_append.1 hd with hd | hd
          · exact l2 d hd
          · simp at hd; subst hd; exact d2
        · by_cases him : i < m
          · rw [List.getElem?_append_left (by omega)] at hi
            exact l3 i d hi
          · rw [List.getElem?_append_right (by omega)] at hi
            have : i = m := by
              have := (List.getElem?_eq_some_iff.1 hi).1
              simp at this
              omega
            subst this
            simp [l1] at hi
            subst hi
            exact ⟨cs, d1, d3, d4⟩
    obtain ⟨l, l1, l2, l3⟩ := list len (Nat.le_refl _)
    refine ⟨.sl l, ?_, l, rfl, l2, by omega⟩
    simp only [RepD]
    refine ⟨some a, cap, by rw [l1], by omega, ?_⟩
    cases l with
    | nil => exact .inl rfl
    | cons d r =>
      right
      have hspot : a.spot = none := by
        obtain ⟨cs, c1, c2, c3⟩ := l3 0 d rfl
        have := c3 0 hc
        cases hs : a.spot with
        | none => rfl
        | some sp =>
          have hcs : cs[0]? = some (cs[0]'(by omega)) := by simp
          rw [hcs] at this
          unfold World.cell? at this
          simp only [Addr.add] at this
          split at this
          · simp at this; rw [hs] at this; simp at this
          · cases this
      refine ⟨a.block, a.off, P.cellsOf e, by cases a; simp only at hspot; subst hspot; rfl, rowD_of fun i d hi => ?_⟩
      obtain ⟨cs, c1, c2, c3⟩ := l3 i d hi
      refine ⟨cs, c2, c1, fun j v hj => ?_⟩
      have hjl : j < P.cellsOf e := by rw [← c2]; exact (List.getElem?_eq_some_iff.1 hj).1
      have := c3 j hjl
      rw [hj] at this
      have ea : (a.add (i * P.cellsOf e)).add j = ⟨a.block, a.off + i * P.cellsOf e + j, none⟩ := by
        obtain ⟨b, o, s⟩ := a
        simp only at hspot
        subst hspot
        unfold Addr.add
        split <;> split <;> simp_all
      rw [ea] at this
      exact this

/-- the fields lie one behind the other, to the end -/
def laid (P : Program) (total : Nat) : Nat → List Field → Bool
  | o, [] => o == total
  | o, f :: r => f.offset == o && laid P total (o + P.cellsOf f.type) r

theorem reads_fields {cs : List Value} {total : Nat} (hlen : cs.length = total) : ∀ (fs : List Field) (Ts : List (Dat → Prop)) (o : Nat), laid P total o fs = true → fs.length = Ts.length →
    (∀ (i : Nat) (f : Field) (T : Dat → Prop), fs[i]? = some f → Ts[i]? = some T → ∃ D, RepD (allF w) D ((cs.drop f.offset).take (P.cellsOf f.type)) ∧ T D) →
    ∃ ds : List Dat, AggD (allF w) (ds.flatMap Dat.cells) (cs.drop o) ∧ ds.length = Ts.length ∧ ∀ (i : Nat) (T : Dat → Prop) (d : Dat), Ts[i]? = some T → ds[i]? = some d → T d
  | [], [], o, h, _, _ => by
    simp only [laid, beq_iff_eq] at h
    refine ⟨[], ?_, rfl, by simp⟩
    rw [List.drop_of_length_le (by omega)]
    simp [AggD]
  | [], T :: Ts, o, h, hl, _ => by simp at hl
  | f :: fs, [], o, h, hl, _ => by simp at hl
  | f :: fs, T :: Ts, o, h, hl, he => by
    simp only [laid, Bool.and_eq_true, beq_iff_eq] at h
    obtain ⟨h1, h2⟩ := h
    obtain ⟨ds, e1, e2, e3⟩ := reads_fields hlen fs Ts _ h2 (by simpa using hl) fun i f' T' hi hT => he (i + 1) f' T' (by simpa using hi) (by simpa using hT)
    obtain ⟨D, d1, d2⟩ := he 0 f T rfl rfl
    refine ⟨D :: ds, ?_, by simp [e2], fun i T' d hi hd => ?_⟩
    · rw [List.flatMap_cons]
      have := (d1.cellsAgg).append e1
      rw [h1] at this
      have hsplit : (cs.drop o).take (P.cellsOf f.type) ++ cs.drop (o + P.cellsOf f.type) = cs.drop o := by
        rw [← List.drop_drop, List.take_append_drop]
      rwa [hsplit] at this
    · cases i with
      | zero => simp at hi hd; subst hi; subst hd; exact d2
      | succ i => exact e3 i T' d (by simpa using hi) (by simpa using hd)

theorem reads_struct {fs : Array Field} {Ts : List (Dat → Prop)} (ht : P.underlying t = some (.struct fs)) (hl : laid P (P.cellsOf t) 0 fs.toList = true) (hn : fs.size = Ts.length)
    (he : ∀ (i : Nat) (f : Field) (T : Dat → Prop), fs[i]? = some f → Ts[i]? = some T → ReadsAs P w f.type T) : ReadsAs P w t (IsAgg Ts) := by
  intro H enc base spare held fuel cs x h
  obtain ⟨xs, n, _, _, hlen, hxs, hf⟩ := DataW.trod_struct ht h
  obtain ⟨ds, e1, e2, e3⟩ := reads_fields (w := w) hlen fs.toList Ts 0 hl (by simpa using hn) fun i f T hi hT => by
    have hi' : fs[i]? = some f := by simpa using hi
    have hlt : i < xs.length := by rw [hxs]; exact (Array.getElem?_eq_some_iff.1 hi').1
    have := hf i f hi'
    rw [List.getElem?_eq_getElem hlt] at this
    exact he i f T hi' hT H enc base spare held n _ _ this
  exact ⟨.agg (ds.flatMap Dat.cells), by simpa [RepD] using e1, ds, rfl, e2, e3⟩

/-- an argument that is no struct -/
theorem reads_arg {T : Dat → Prop} {H : Type} {enc : TypeId × Value → H} {base : Nat} {spare : Nat → Bool} {held : Bool} {v : Value} {d : DataW H} {ps : List MemPlace} (h : DataW.Trod enc P w base spare held t v d ps) (hr : ReadsAs P w t T)
    (hv : isAggV v = false) (hT : ∀ D, T D → D.isAgg = false) : ∃ D, RepA (ctx0 w) (.dat D) v ∧ T D := by
  obtain ⟨fuel, hf⟩ := h
  obtain ⟨D, h1, h2⟩ := hr H enc base spare held fuel _ _ hf
  exact ⟨D, ⟨h1, by rw [hv, hT D h2]⟩, h2⟩

end
end Go.Am

/- The abstract machine: what it answers for all data of the right shape, a law says of all arguments. -/
set_option linter.unusedVariables false
namespace Go.Am
open Go.RowKit Go.ChangeShapes Go.WideShapes

structure ArgOK (P : Program) (t : TypeId) (T : Dat → Prop) : Prop where
  rd : ∀ w, ReadsAs P w t T
  agg : ∀ (w : World) (base : Nat) (v : Value), Value.okWide P w .any base t v → ∀ D, T D → isAggV v = D.isAgg
  read : P.readableRec t = true
  row : t < P.types.size

def ArgsOK (P : Program) : List TypeId → List (Dat → Prop) → Prop
  | [], [] => True
  | t :: ts, T :: Ts => ArgOK P t T ∧ ArgsOK P ts Ts
  | _, _ => False

def AllD : List (Dat → Prop) → List Dat → Prop
  | [], [] => True
  | T :: Ts, D :: Ds => T D ∧ AllD Ts Ds
  | _, _ => False

theorem args_read {P : Program} {H : Type} {enc : TypeId × Value → H} {w : World} {base : Nat} : ∀ (ts : List TypeId) (Ts : List (Dat → Prop)) (vs : List Value) (ds : List (DataW H)) (ps : List MemPlace),
    ArgsOK P ts Ts → DataW.TrodAll enc P w 0 (fun _ => true) true ts vs ds ps → (∀ (j : Nat) t v, ts[j]? = some t → vs[j]? = some v → Value.okWide P w .any base t v) →
    ∃ Ds : List Dat, AllD Ts Ds ∧ RepL (ctx0 w) (Ds.map .dat) vs
  | [], [], vs, ds, ps, _, h, _ => by
    obtain ⟨rfl, rfl, rfl⟩ := trodAll_nil h
    exact ⟨[], trivial, rfl⟩
  | t :: ts, T :: Ts, vs, ds, ps, hA, h, hv => by
    obtain ⟨v, vs', d, ds', p, q, rfl, rfl, rfl, h0, hr⟩ := trodAll_cons h
    obtain ⟨a0, ar⟩ := hA
    obtain ⟨Ds, h1, h2⟩ := args_read ts Ts vs' ds' q ar hr fun j t v ht hvj => hv (j + 1) t v (by simpa using ht) (by simpa using hvj)
    obtain ⟨fuel, hf⟩ := h0
    obtain ⟨D, d1, d2⟩ := a0.rd w H enc 0 (fun _ => true) true fuel _ _ hf
    exact ⟨D :: Ds, ⟨d2, h1⟩, v, vs', rfl, ⟨d1, a0.agg w base v (hv 0 t v rfl rfl) D d2⟩, h2⟩
  | [], T :: Ts, _, _, _, h, _, _ => h.elim
  | t :: ts, [], _, _, _, h, _, _ => h.elim

theorem args_again {P : Program} {H : Type} {enc : TypeId × Value → H} {w w' : World} (hl : laidOutB P = true) (sp : Nat → Bool) : ∀ (ts : List TypeId) (Ts : List (Dat → Prop)) (vs : List Value) (ds : List (DataW H)) (ps : List MemPlace),
    ArgsOK P ts Ts → DataW.TrodAll enc P w 0 (fun _ => true) true ts vs ds ps → (∀ p ∈ ps, w.sameAt w' p) → (∀ p ∈ ps, sp p.block = true) → DataW.TrodAll enc P w' 0 sp true ts vs ds ps
  | [], [], vs, ds, ps, _, h, _, _ => by
    obtain ⟨rfl, rfl, rfl⟩ := trodAll_nil h
    exact trodAll_mk0
  | t :: ts, T :: Ts, vs, ds, ps, hA, h, hs, hp => by
    obtain ⟨v, vs', d, ds', p, q, rfl, rfl, rfl, h0, hr⟩ := trodAll_cons h
    obtain ⟨a0, ar⟩ := hA
    exact trodAll_cons_mk (WideElems.Trod_stays hl a0.read a0.row h0 (fun x hx => hs x (by simp [hx])) (fun x hx => hp x (by simp [hx])))
      (args_again hl sp ts Ts vs' ds' q ar hr (fun x hx => hs x (by simp [hx])) (fun x hx => hp x (by simp [hx])))
  | [], T :: Ts, _, _, _, h, _, _, _ => h.elim
  | t :: ts, [], _, _, _, h, _, _, _ => h.elim

theorem Grown.same {w w' : World} (h : Grown w w') {p : MemPlace} (hb : p.block < w.heap.size) : w.sameAt w' p := by
  have hk := h.1
  cases p with
  | cell b o => exact hk.cell hb (fun h => h)
  | map b =>
    show w'.heap[b]? = w.heap[b]?
    have hk := hk.2.2 b hb
    split at hk
    · rename_i c t fr c' t' fr' e1 e2
      obtain ⟨rfl, rfl, h3, h4⟩ := hk
      have : c' = c := Array.ext_getElem? fun j => h4 j (fun h => h)
      rw [e1, e2, this]
    · rename_i e1 e2
      rcases hk with hf | ⟨rfl, rfl⟩
      · exact hf.elim
      · rw [e1, e2]
    · exact hk

/-- THE CONTRACT OF A LAW: true, and nothing turned. -/
theorem law_contract {P : Program} {tbl : FuncId → Option AFun} (ht : TblOK P tbl) (hl : laidOutB P = true) {f : FuncId} {fn : Func} {s : ChangeSpec} {Ts : List (Dat → Prop)} (hA : ArgsOK P fn.params.toList Ts)
    {tb : TypeId} (htb : P.underlying tb = some .bool) (hres : fn.resultTypes = #[tb]) (hvars : s.vars = [])
    (hfn : ∀ (H : Type) (ds : List (DataW H)), ds.length = fn.params.size → s.fn H ds = { results := [.lit (.bool true)], args := ds })
    {H : Type} {enc : TypeId × Value → H} {W : World} {base : Nat} {args : Array Value} {ds gs : List (DataW H)} {before : List MemPlace}
    (hrun : ∀ Ds, AllD Ts Ds → RepL (ctx0 W) (Ds.map .dat) args.toList → ∃ os', callT tbl f (Ds.map .dat) [] = some (.dat (.bool true), os'))
    (hval : ∀ (j : Nat) t v, fn.params[j]? = some t → args[j]? = some v → Value.okWide P W .any base t v)
    (hW : DataW.Whole enc P fn.params.toList s.vars false W args.toList ds gs before) :
    Calls P f args W fun e W' => ∃ v, e = .returned v ∧ s.post enc P fn false true false false W args v W' := by
  have hW' := hW
  obtain ⟨p, q, hA0, hV, rfl, hfz, hnd⟩ := hW
  rw [hvars] at hV
  obtain ⟨rfl, rfl⟩ := trodVars_none hV
  obtain ⟨Ds, h1, h2⟩ := args_read _ _ _ _ _ hA hA0 fun j t v ht hv => hval j t v (by simpa using ht) (by simpa using hv)
  obtain ⟨os', ho⟩ := hrun Ds h1 h2
  refine (top_calls ht ho h2).mono fun e W1 ⟨he, hg⟩ => ?_
  have hlen : ∀ (ts : List TypeId) (vs : List Value) (ds : List (DataW H)) (ps : List MemPlace), DataW.TrodAll enc P W 0 (fun _ => true) true ts vs ds ps → ds.length = ts.length := by
    intro ts
    induction ts with
    | nil => intro vs ds ps h; obtain ⟨rfl, rfl, rfl⟩ := trodAll_nil h; rfl
    | cons t ts ih =>
      intro vs ds ps h
      obtain ⟨v, vs', d, ds', p, q, rfl, rfl, rfl, _, hr⟩ := trodAll_cons h
      simp [ih _ _ _ hr]
  have hds := hlen _ _ _ _ hA0
  have hs := hfn H ds (by rw [hds]; simp)
  subst he
  refine ⟨_, rfl, post_of_same (pa := p) (pv := []) hW' (fun b sp hd => ?_) (fun sp hsp => ?_) (fun _ _ => ?_) (by simp) (hg.frame _) hg.2.1 (ok_one hres rfl (okWide_bool_mk htb _))⟩
  · rw [List.append_nil, hs, hres]
    exact trodAll_cons_mk (shut_bool htb _) trodAll_mk0
  · rw [List.append_nil, hs]
    exact args_again hl sp _ _ _ _ _ hA hA0 (fun x hx => Grown.same hg (hW'.lt x (by simpa using hx))) (fun x hx => hsp x (by simpa using hx))
  · rw [hvars, List.append_nil, hs]
    rfl

theorem argInt {P : Program} {t : TypeId} {k : IntKind} (ht : P.underlying t = some (.int k)) (hr : P.readableRec t = true) (hs : t < P.types.size) : ArgOK P t (IsInt k) :=
  ⟨fun w => reads_int ht, fun w base v hv D ⟨n, h, _⟩ => by obtain ⟨n', rfl⟩ := okWide_int ht hv; subst h; rfl, hr, hs⟩
theorem argBool {P : Program} {t : TypeId} (ht : P.underlying t = some .bool) (hr : P.readableRec t = true) (hs : t < P.types.size) : ArgOK P t IsBool :=
  ⟨fun w => reads_bool ht, fun w base v hv D ⟨n, h⟩ => by obtain ⟨n', rfl⟩ := okWide_bool ht hv; subst h; rfl, hr, hs⟩
theorem argStr {P : Program} {t : TypeId} (ht : P.underlying t = some .string) (hr : P.readableRec t = true) (hs : t < P.types.size) : ArgOK P t IsStr :=
  ⟨fun w => reads_string ht, fun w base v hv D ⟨n, h, _⟩ => by obtain ⟨n', rfl⟩ := okWide_string ht hv; subst h; rfl, hr, hs⟩
theorem argSlice {P : Program} {t e : TypeId} {T : Dat → Prop} (ht : P.underlying t = some (.slice e)) (hc : 0 < P.cellsOf e) (he : ∀ w, ReadsAs P w e T) (hr : P.readableRec t = true) (hs : t < P.types.size) : ArgOK P t (IsSl T) :=
  ⟨fun w => reads_slice ht hc (he w), fun w base v hv D ⟨n, h, _⟩ => by obtain ⟨a, l, c, rfl⟩ := okWide_slice ht hv; subst h; rfl, hr, hs⟩
theorem argStruct {P : Program} {t : TypeId} {fs : Array Field} {Ts : List (Dat → Prop)} (ht : P.underlying t = some (.struct fs)) (hl : laid P (P.cellsOf t) 0 fs.toList = true) (hn : fs.size = Ts.length)
    (he : ∀ w, ∀ (i : Nat) (f : Field) (T : Dat → Prop), fs[i]? = some f → Ts[i]? = some T → ReadsAs P w f.type T) (hr : P.readableRec t = true) (hs : t < P.types.size) : ArgOK P t (IsAgg Ts) :=
  ⟨fun w => reads_struct ht hl hn (he w), fun w base v hv D ⟨n, h, _⟩ => by obtain ⟨cs, rfl, _⟩ := okWide_struct ht hv; subst h; rfl, hr, hs⟩

end Go.Am

namespace Go.Am
theorem lives_run : callT tblJ 8 [] [] = some (.dat (.bool true), []) := callT_kf (m := 4000) (n := 30) (by kernel_rfl)
end Go.Am

/- What a law is handed, as bytes and numbers; the seat's common facts. -/
set_option linter.unusedVariables false
namespace Go.Am

@[simp] def Bs' (l : List UInt8) : Dat := .sl (l.map B)

theorem byte_of {D : Dat} (h : IsInt .u8 D) : ∃ b, D = B b := by
  obtain ⟨n, rfl, hw⟩ := h
  have : 0 ≤ n ∧ n ≤ 255 := by simpa [Lit.wf, IntKind.min, IntKind.max, IntKind.signed, IntKind.bits] using hw
  refine ⟨UInt8.ofNat n.toNat, ?_⟩
  rw [B, UInt8.toNat_ofNat']
  congr 1
  omega

theorem list_of {T : Dat → Prop} {α : Type} {f : α → Dat} (hf : ∀ d, T d → ∃ a, d = f a) : ∀ (l : List Dat), (∀ d ∈ l, T d) → ∃ xs : List α, l = xs.map f
  | [], _ => ⟨[], rfl⟩
  | d :: l, h => by
    obtain ⟨a, ha⟩ := hf d (h d (by simp))
    obtain ⟨xs, hx⟩ := list_of hf l fun d hd => h d (by simp [hd])
    exact ⟨a :: xs, by rw [ha, hx]; rfl⟩

theorem bytes_of {D : Dat} (h : IsSl (IsInt .u8) D) : ∃ l : List UInt8, D = .sl (l.map B) := by
  obtain ⟨l, rfl, h, _⟩ := h
  obtain ⟨xs, rfl⟩ := list_of (fun d hd => byte_of hd) l h
  exact ⟨xs, rfl⟩

theorem all1 {T1 : Dat → Prop} {Ds : List Dat} (h : AllD [T1] Ds) : ∃ D1, Ds = [D1] ∧ T1 D1 := by
  match Ds, h with
  | [D1], h => exact ⟨D1, rfl, h.1⟩
theorem all2 {T1 T2 : Dat → Prop} {Ds : List Dat} (h : AllD [T1, T2] Ds) : ∃ D1 D2, Ds = [D1, D2] ∧ T1 D1 ∧ T2 D2 := by
  match Ds, h with
  | [D1, D2], h => exact ⟨D1, D2, rfl, h.1, h.2.1⟩
theorem all3 {T1 T2 T3 : Dat → Prop} {Ds : List Dat} (h : AllD [T1, T2, T3] Ds) : ∃ D1 D2 D3, Ds = [D1, D2, D3] ∧ T1 D1 ∧ T2 D2 ∧ T3 D3 := by
  match Ds, h with
  | [D1, D2, D3], h => exact ⟨D1, D2, D3, rfl, h.1, h.2.1, h.2.2.1⟩
end Go.Am
namespace Go.Proofs.Ytpmlioigoiipaaa
theorem own : ownKnob Try.prog.godebug = none := by kernel_rfl
theorem laidOut : laidOutB Try.prog = true := by kernel_rfl
end Go.Proofs.Ytpmlioigoiipaaa

/- What the laws on acts are handed. -/
namespace Go.Proofs.Ytpmlioigoiipaaa
open Go.ChangeShapes Go.WideShapes Go.RowKit Go.Am
set_option linter.unusedVariables false

abbrev ActT : List (Dat → Prop) := [IsInt .i64, IsInt .i64, IsSl (IsInt .u8), IsSl (IsInt .i64)]

theorem reads51 (w : World) : ReadsAs Try.prog w 51 (IsAgg ActT) :=
  reads_struct Try.underlying51 (by kernel_rfl) rfl fun i f T hf hT => by
    match i, hf, hT with
    | 0, hf, hT => cases hf; cases hT; exact reads_int Try.underlying3
    | 1, hf, hT => cases hf; cases hT; exact reads_int Try.underlying3
    | 2, hf, hT => cases hf; cases hT; exact reads_slice Try.underlying29 (of_decide_eq_true (by kernel_rfl)) (reads_int Try.underlying5)
    | 3, hf, hT => cases hf; cases hT; exact reads_slice Try.underlying49 (of_decide_eq_true (by kernel_rfl)) (reads_int Try.underlying3)

theorem act_of {D : Dat} (h : IsAgg ActT D) : ∃ x : Am.Act, D = Ac x := by
  obtain ⟨ds, rfl, hl, ht⟩ := h
  match ds, hl with
  | [d1, d2, d3, d4], _ =>
    obtain ⟨k, h1, _⟩ := ht 0 _ d1 rfl rfl
    obtain ⟨i, h2, _⟩ := ht 1 _ d2 rfl rfl
    obtain ⟨b, h3⟩ := bytes_of (ht 2 _ d3 rfl rfl)
    obtain ⟨l, h4, h5, _⟩ := ht 3 _ d4 rfl rfl
    obtain ⟨xs, hx⟩ := list_of (f := I64) (fun d hd => by obtain ⟨n, rfl, _⟩ := hd; exact ⟨n, rfl⟩) l h5
    refine ⟨(k, i, b, xs), ?_⟩
    rw [h1, h2, h3, h4, hx]
    rfl

theorem argsA : ArgsOK Try.prog [3, 44] [IsInt .i64, IsSl (IsAgg ActT)] :=
  ⟨argInt Try.underlying3 (by kernel_rfl) (of_decide_eq_true (by kernel_rfl)),
   argSlice (e := 51) Try.underlying44 (of_decide_eq_true (by kernel_rfl)) reads51 (by kernel_rfl) (of_decide_eq_true (by kernel_rfl)), trivial⟩

theorem acts_of {Ds : List Dat} (h : AllD [IsInt .i64, IsSl (IsAgg ActT)] Ds) : ∃ (n : Int) (l : List Am.Act), Ds = [.int .i64 n, .sl (l.map Ac)] := by
  obtain ⟨D1, D2, rfl, h1, h2⟩ := all2 h
  obtain ⟨n, h1, _⟩ := h1
  obtain ⟨l, h2, hl, _⟩ := h2
  obtain ⟨xs, hx⟩ := list_of (f := Ac) (fun d hd => act_of hd) l hl
  exact ⟨n, xs, by rw [h1, h2, hx]⟩
end Go.Proofs.Ytpmlioigoiipaaa
