/- The law JournalKeeps, walked. -/
import Derived.Test.YtpmlioigoiipaaaJPlain2
set_option linter.unusedVariables false
set_option linter.unusedSimpArgs false
set_option maxRecDepth 10000
namespace Go.Am
open Go.Proofs

def dskL (i : Nat) (v n : Nat) (cr op : Int) (du : List (List UInt8)) : Store := [((i, 0), dskB (.rsl (i, 1) v 1 0 n) .nils cr op), ((i, 1), .arr 1 v false (du.map Bs))]

def keepsPost (l : List (List UInt8)) (q : AEx × St) : Prop :=
  (q.1 = .ret ∧ ∃ objs, hd [4] [] q.2 = some ⟨[(4, .dat (.bool true))], objs⟩) ∨
  (q.1 = .exit 0 ∧ ∃ v cr op du e m, JInv du l e m ∧ m < 1000 ∧ du.length = 100 ∧ 0 ≤ op ∧ op < 1000 ∧ hd [0, 5] [] q.2 = some ⟨[(0, .dat (.sl (l.map Bs))), (5, .ref (6, 0) 0)], dskL 6 v du.length cr op du⟩)

theorem cnt_small {b : List UInt8} (hb : b.length ≤ 300) (n e : Nat) : (imageB b n e).length ≤ 6 := by
  rw [imageB_len]
  have := uintB_le9 1 b.length (by omega)
  have h2 : (sealB b).length = (uintB b.length).length + b.length + 4 := by simp [sealB, sumB]; omega
  unfold cntB
  omega

theorem keeps_loop (lives : KJ 8 [] [] = some (.dat (.bool true), [])) (c : Bool) : ∀ (rest pre : List (List UInt8)) (v : Nat) (cr op : Int) (du : List (List UInt8)) (e m : Nat) (s : St), pre.length + rest.length ≤ 15 → JInv du pre e m → m ≤ pre.length → du.length = 100 → e ≤ 6 * pre.length → 0 ≤ op → op ≤ pre.length → 0 ≤ cr → cr ≤ pre.length →
    hd [0, 1, 5, 7] [0, 5] s = some ⟨[(0, .dat (.sl ((pre ++ rest).map Bs))), (1, .dat (.bool c)), (5, .ref (6, 0) 0), (7, .dat (.int .i64 pre.length))], dskL 6 v du.length cr op du⟩ →
    Ev (loopLim (exec KJ l7_0) s) (keepsPost (pre ++ rest)) := by
  intro rest
  induction rest with
  | nil =>
    intro pre v cr op du e m s hl hJ hm hn he ho1 ho2 hc1 hc2 hs
    apply ev_loop
    have hpost : keepsPost (pre ++ []) = keepsPost pre := by rw [List.append_nil]
    rw [hpost]
    generalize hQ : keepsPost pre = Q
    simp [hs, dskL, dskB]
    rw [← hQ]
    refine .inr ⟨rfl, v, cr, op, du, e, m, hJ, by omega, hn, ho1, by omega, by simp [dskL, dskB]⟩
  | cons b rest ih =>
    intro pre v cr op du e m s hl hJ hm hn he ho1 ho2 hc1 hc2 hs
    apply ev_loop
    rw [List.length_cons] at hl
    by_cases hb : b.length ≤ 300
    · have hb1 : ¬ (300 : Int) < b.length := by omega
      have hb2 : ¬ 300 < b.length := by omega
      have hx : Ix pre.length := by unfold Ix; omega
      obtain ⟨hmost, hJ2⟩ := hJ.most
      have hopen := open_run (v := v) (du := du) (cr := cr) (op := op) (pe := []) (.inl ⟨rfl, rfl, rfl⟩) (by simp) hJ.len (by simp) (by omega) ho1 (by omega) (by rw [allC_nil]; omega)
      rw [allC_nil, hJ.scan] at hopen
      generalize mostB du 0 = M at *
      obtain ⟨rv, ro, hr, hopen⟩ := hopen
      have hcnt := cnt_small hb pre.length (M + 1)
      have hW := inv_write (b := b) hJ2 (ep := M + 1) (by omega) (by omega) (by omega) (by omega) (by omega) (by omega)
      have hlists := lists_run pre pre (by omega)
      have hg : (pre == pre) = true := by simp
      rw [hg] at hlists
      have hop1 : 0 ≤ op + 1 := by omega
      have ih2 := ih (pre ++ [b])
      have e1 : pre ++ b :: rest = (pre ++ [b]) ++ rest := by simp
      rw [e1]
      generalize hQ : keepsPost ((pre ++ [b]) ++ rest) = Q at ih2 ⊢
      rcases hr with ⟨hp0, rfl, rfl⟩ | ⟨vr, rfl, rfl⟩
      · have hp0' : pre = [] := hp0
        subst hp0'
        simp only [List.length_nil, List.nil_append, List.length_singleton] at hcnt hm he ho2 hc2 hW ih2 hl hs hx
        have happ := append_a v du cr (op + 1) e (M + 1) b (by omega) (by omega) (by omega) (by omega) (by omega)
        generalize hSA : setAll du e (imageB b 0 (M + 1)) = D at *
        simp [dsk, dskB, jouB] at hopen
        simp [jouA, dskB] at happ
        have hlen := len_run v 0 [b] D cr (op + 1) cr (op + 1) (e + (imageB b 0 (M + 1)).length) (M + 1)
        have hDl : D.length = du.length := by rw [← hSA, setAll_len]
        rw [hDl] at hlen
        simp [jouA, dskB] at hlen hlists
        have hcr := crash_none v D cr (op + 1) hc1 (by omega)
        have hac := append_crash v 0 [b] D cr (op + 1) (cr + 1) (op + 1) (e + (imageB b 0 (M + 1)).length) (M + 1) [] (by omega)
        rw [hDl] at hac
        simp [dsk, dskB, hDl] at hcr
        simp [jouA, dskB] at hac
        cases c with
        | false =>
          simp [hs, dskL, dskB, hb1, hb2, hopen, hlists, happ, hlen]
          refine Ev.mono (ih2 v cr (op + 1) D _ _ _ (by omega) hW (by omega) (by omega) (by omega) hop1 (by omega) hc1 (by omega) (by simp [dskL, dskB, hDl])) (fun _ h => h)
        | true =>
          simp [hs, dskL, dskB, hb1, hb2, hopen, hlists, happ, hlen, hcr, hac]
          refine Ev.mono (ih2 v (cr + 1) (op + 1) D _ _ _ (by omega) hW (by omega) (by omega) (by omega) hop1 (by omega) (by omega) (by omega) (by simp [dskL, dskB, hDl])) (fun _ h => h)
      · have happ := append_b v vr pre du cr (op + 1) e (M + 1) b (by omega) (by omega) (by omega) (by omega) (by omega) (by omega)
        generalize hSA : setAll du e (imageB b pre.length (M + 1)) = D at *
        simp [dsk, dskB, jouB] at hopen
        simp [jouA, dskB] at happ
        have hlen := len_run v (vr + 1) (pre ++ [b]) D cr (op + 1) cr (op + 1) (e + (imageB b pre.length (M + 1)).length) (M + 1)
        have hDl : D.length = du.length := by rw [← hSA, setAll_len]
        rw [hDl] at hlen
        simp [jouA, dskB] at hlen hlists
        have hcr := crash_none v D cr (op + 1) hc1 (by omega)
        have hac := append_crash v (vr + 1) (pre ++ [b]) D cr (op + 1) (cr + 1) (op + 1) (e + (imageB b pre.length (M + 1)).length) (M + 1) [] (by omega)
        rw [hDl] at hac
        simp [dsk, dskB, hDl] at hcr
        simp [jouA, dskB] at hac
        have hle : (pre.length : Int) ≤ pre.length + (rest.length + 1) := by omega
        have htk : (pre.map Bs ++ Dat.sl (b.map B) :: rest.map Bs).take pre.length = pre.map Bs := List.take_left' (by simp)
        simp only [List.length_append, List.length_singleton] at ih2
        cases c with
        | false =>
          simp [hs, dskL, dskB, hb1, hb2, hx, hopen, hlists, happ, hlen, htk, hle]
          refine Ev.mono (ih2 v cr (op + 1) D _ _ _ (by omega) hW (by omega) (by omega) (by omega) hop1 (by omega) hc1 (by omega) (by simp [dskL, dskB, hDl])) (fun _ h => h)
        | true =>
          simp [hs, dskL, dskB, hb1, hb2, hx, hopen, hlists, happ, hlen, hcr, hac, htk, hle]
          refine Ev.mono (ih2 v (cr + 1) (op + 1) D _ _ _ (by omega) hW (by omega) (by omega) (by omega) hop1 (by omega) (by omega) (by omega) (by simp [dskL, dskB, hDl])) (fun _ h => h)
    · have hb1 : (300 : Int) < b.length := by omega
      have hb2 : 300 < b.length := by omega
      generalize hQ : keepsPost (pre ++ b :: rest) = Q
      simp [hs, dskL, dskB, hb1, hb2, lives]
      rw [← hQ]
      exact .inl ⟨rfl, dskL 6 v du.length cr op du, by simp [dskL, dskB]⟩

theorem journalKeeps_run (lives : KJ 8 [] [] = some (.dat (.bool true), [])) (l : List (List UInt8)) (c : Bool) : KJ 7 [.dat (.sl (l.map Bs)), .dat (.bool c)] [] = some (.dat (.bool true), []) := by
  refine callT_ev (fn := fn7) rfl rfl ?_
  by_cases hl : l.length ≤ 15
  · have hl1 : ¬ (15 : Int) < l.length := by omega
    have hl2 : ¬ 15 < l.length := by omega
    obtain ⟨v, hnd⟩ := newDisk_run 100 (by omega) (by omega)
    have hlp := fun s h => keeps_loop lives c l [] v 0 0 (List.replicate 100 zeroS) 0 0 s (by simpa using hl) (inv_zero 100) (by omega) (by simp) (by omega) (by omega) (by simp) (by omega) (by simp) h
    generalize List.replicate 100 zeroS = Z at *
    generalize hQ : keepsPost ([] ++ l) = Q at hlp
    simp [dsk, dskB] at hnd
    simp [runFun_eq, hl1, hl2, hnd]
    simp only [ev_bnd_iff]
    refine Ev.mono (hlp _ (by simp [dskL, dskB])) ?_
    rw [← hQ, List.nil_append]
    rintro ⟨x, s⟩ (⟨rfl, objs, hs⟩ | ⟨rfl, v, cr, op, du, e, m, hJ, hm, hn, ho1, ho2, hs⟩)
    · dsimp only at hs
      simp only [blkK, Ev_some, seqK, endK_hd hs]
      simp
    · dsimp only at hs
      obtain ⟨hmost, hJ2⟩ := hJ.most
      have hopen := open_run (v := v) (du := du) (cr := cr) (op := op) (pe := []) (.inl ⟨rfl, rfl, rfl⟩) (by simp) hJ.len (by simp) (by omega) ho1 (by omega) (by rw [allC_nil]; omega)
      rw [allC_nil, hJ.scan] at hopen
      obtain ⟨rv, ro, hr, hopen⟩ := hopen
      have hlists := lists_run l l (by omega)
      have hg : (l == l) = true := by simp
      rw [hg] at hlists
      rcases hr with ⟨hp0, rfl, rfl⟩ | ⟨vr, rfl, rfl⟩
      · simp [dsk, dskB, jouB] at hopen
        simp [hs, dskL, dskB, hopen, hlists, lives]
      · simp [dsk, dskB, jouB] at hopen
        simp [hs, dskL, dskB, hopen, hlists, lives]
  · have hl1 : (15 : Int) < l.length := by omega
    have hl2 : 15 < l.length := by omega
    simp [runFun_eq, hl1, hl2, lives]
end Go.Am
