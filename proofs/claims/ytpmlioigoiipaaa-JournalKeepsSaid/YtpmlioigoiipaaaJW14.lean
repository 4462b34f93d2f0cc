/- Walks: a journal, opened. -/
import Derived.Test.YtpmlioigoiipaaaJW13
set_option linter.unusedVariables false
set_option linter.unusedSimpArgs false
set_option maxRecDepth 10000
namespace Go.Am
open Go.Proofs

/-- the records of a journal, behind b objects -/
def RecO (b : Nat) (rs : List (List UInt8)) (rv : AVal) (ro : List Obj) : Prop := (rs = [] ∧ rv = .nils ∧ ro = []) ∨ ∃ vr, rv = .rsl (0, b) vr 1 0 rs.length ∧ ro = [.arr 1 vr false (rs.map Bs)]

theorem open_full {v : Nat} {du : List (List UInt8)} {pe : List (Int × List UInt8)} {cr op : Int} {pv : AVal} {po : List Obj} (hp : Pend pe pv po) (hl : pe.length < 1000000000) (h64 : ∀ d ∈ du, d.length = 64) (h64' : ∀ w ∈ pe, w.2.length = 64) (hdl : du.length ≤ 4096)
    (hm : mostB (allC du pe) 0 = 4294967295) : KJ 10 [.ref (0, 0) 0] (dsk v du cr op pv po) = some (.tup [.nilp, .dat (.sl []), .dat (.int .i64 24)], dsk v du cr op pv po) := by
  refine callT_ev (fn := fn10) rfl rfl ?_
  have hv := valid_run (v := v) (du := du) (cr := cr) (op := op) hp
  have hlp := fun s h => mst_loop (v := v) (cr := cr) (op := op) hp hl h64 h64' hdl du.length 0 0 s (by omega) (by omega) h
  rw [List.drop_zero, hm] at hlp
  rcases hp with ⟨rfl, rfl, rfl⟩ | ⟨v2, rfl, rfl⟩ <;> simp [dsk, dskB] at hv
  all_goals
    simp [runFun_eq, dsk, dskB, hv]
    simp only [ev_bnd_iff]
    refine Ev.mono (hlp _ (by simp [dst, dskB])) ?_
    rintro ⟨_, s⟩ ⟨rfl, hs⟩
    dsimp only at hs
    simp [hs, dst, dskB]

theorem open_run {v : Nat} {du : List (List UInt8)} {pe : List (Int × List UInt8)} {cr op : Int} {pv : AVal} {po : List Obj} (hp : Pend pe pv po) (hl : pe.length < 1000000000) (h64 : ∀ d ∈ du, d.length = 64) (h64' : ∀ w ∈ pe, w.2.length = 64) (hdl : du.length ≤ 4096)
    (hop : 0 ≤ op) (hop2 : op < 1000000000) (hm : mostB (allC du pe) 0 ≠ 4294967295) :
    ∃ rv ro, RecO (3 + po.length) (scanB (du.length + 1) (allC du pe) 0 0).1 rv ro ∧
      KJ 10 [.ref (0, 0) 0] (dsk v du cr op pv po) = some (.tup [.ref (0, 2 + po.length) 0, .dat (.sl ((scanB (du.length + 1) (allC du pe) 0 0).1.map Bs)), .dat (.int .i64 0)],
        dsk v du cr (op + 1) pv po ++ [jouB rv (scanB (du.length + 1) (allC du pe) 0 0).2 (mostB (allC du pe) 0 + 1) cr (op + 1)] ++ ro) := by
  have hv := valid_run (v := v) (du := du) (cr := cr) (op := op) hp
  have hlp := fun s h => mst_loop (v := v) (cr := cr) (op := op) hp hl h64 h64' hdl du.length 0 0 s (by omega) (by omega) h
  have hlp2 := fun ep rv ro s hr h => opn_loop (v := v) (cr := cr) (op := op + 1) hp hl h64 h64' hdl ep (du.length + 1) 0 0 [] rv ro s (by omega) (by omega) (by simp) hr h
  have hml := mostB_lt (allC du pe) 0 (by omega)
  rw [List.drop_zero] at hlp
  simp only [List.nil_append, List.length_nil] at hlp2
  generalize hM : mostB (allC du pe) 0 = M at *
  generalize hS : scanB (du.length + 1) (allC du pe) 0 0 = S at *
  obtain ⟨rs, en⟩ := S
  dsimp only at *
  have hm1 : ¬ (M : Int) = 4294967295 := by omega
  have ho1 : op + 1 < 1000000000000000 := by omega
  have ho2 : -1000000000000000 < op + 1 := by omega
  have hm2 : ((M : Int) + 1) % 4294967296 = M + 1 := by omega
  have key : Ev (runFun KJ fn10 [.ref (0, 0) 0] (dsk v du cr op pv po)) fun r => ∃ rv ro, RecO (3 + po.length) rs rv ro ∧ r = (.tup [.ref (0, 2 + po.length) 0, .dat (.sl (rs.map Bs)), .dat (.int .i64 0)],
        dsk v du cr (op + 1) pv po ++ [jouB rv en (M + 1) cr (op + 1)] ++ ro) := by
    rcases hp with ⟨rfl, rfl, rfl⟩ | ⟨v2, rfl, rfl⟩ <;> simp [dsk, dskB] at hv
    · generalize hQ : (fun r => ∃ rv ro, RecO (3 + ([] : List Obj).length) rs rv ro ∧ r = (AVal.tup [.ref (0, 2 + ([] : List Obj).length) 0, .dat (.sl (rs.map Bs)), .dat (.int .i64 0)], dsk v du cr (op + 1) .nils [] ++ [jouB rv en (M + 1) cr (op + 1)] ++ ro)) = Q
      simp [runFun_eq, dsk, dskB, hv]
      simp only [ev_bnd_iff]
      refine Ev.mono (hlp _ (by simp [dst, dskB])) ?_
      rintro ⟨_, s⟩ ⟨rfl, hs⟩
      dsimp only at hs
      simp [hs, dst, dskB, hm1, ho1, ho2, hm2]
      simp only [ev_bnd_iff]
      refine Ev.mono (hlp2 (M + 1) _ _ _ (.inl ⟨rfl, rfl, rfl⟩) (by simp [dst, dskB, jouB])) ?_
      rintro ⟨_, s⟩ ⟨rfl, rv, ro, vo, hr, hs⟩
      dsimp only at hs
      simp only [blkK, Ev_some, seqK, endK_hd hs]
      rcases hr with ⟨rfl, rfl, rfl⟩ | ⟨vr, rfl, rfl⟩
      · simp [dst, dskB, jouB]
        rw [← hQ]
        exact ⟨.nils, [], .inl ⟨rfl, rfl, rfl⟩, by simp [dsk, dskB, jouB]⟩
      · simp [dst, dskB, jouB]
        rw [← hQ]
        exact ⟨_, _, .inr ⟨vr, rfl, rfl⟩, by simp [dsk, dskB, jouB]⟩
    · generalize hQ : (fun r => ∃ rv ro, RecO (3 + [Obj.arr 2 v2 false (pe.map pnd)].length) rs rv ro ∧ r = (AVal.tup [.ref (0, 2 + [Obj.arr 2 v2 false (pe.map pnd)].length) 0, .dat (.sl (rs.map Bs)), .dat (.int .i64 0)], dsk v du cr (op + 1) (.rsl (0, 2) v2 2 0 pe.length) [Obj.arr 2 v2 false (pe.map pnd)] ++ [jouB rv en (M + 1) cr (op + 1)] ++ ro)) = Q
      simp [runFun_eq, dsk, dskB, hv]
      simp only [ev_bnd_iff]
      refine Ev.mono (hlp _ (by simp [dst, dskB])) ?_
      rintro ⟨_, s⟩ ⟨rfl, hs⟩
      dsimp only at hs
      simp [hs, dst, dskB, hm1, ho1, ho2, hm2]
      simp only [ev_bnd_iff]
      refine Ev.mono (hlp2 (M + 1) _ _ _ (.inl ⟨rfl, rfl, rfl⟩) (by simp [dst, dskB, jouB])) ?_
      rintro ⟨_, s⟩ ⟨rfl, rv, ro, vo, hr, hs⟩
      dsimp only at hs
      simp only [blkK, Ev_some, seqK, endK_hd hs]
      rcases hr with ⟨rfl, rfl, rfl⟩ | ⟨vr, rfl, rfl⟩
      · simp [dst, dskB, jouB]
        rw [← hQ]
        exact ⟨.nils, [], .inl ⟨rfl, rfl, rfl⟩, by simp [dsk, dskB, jouB]⟩
      · simp [dst, dskB, jouB]
        rw [← hQ]
        exact ⟨_, _, .inr ⟨vr, rfl, rfl⟩, by simp [dsk, dskB, jouB]⟩
  obtain ⟨r, hr, rv, ro, h1, rfl⟩ := key
  exact ⟨rv, ro, h1, callT_ev (fn := fn10) rfl rfl ⟨_, hr, rfl⟩⟩
end Go.Am
