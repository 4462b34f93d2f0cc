/- The law JournalCrash, walked. -/
import Derived.Test.YtpmlioigoiipaaaJCrash2
import Derived.Test.YtpmlioigoiipaaaJKeeps
set_option linter.unusedVariables false
set_option linter.unusedSimpArgs false
set_option maxRecDepth 10000
namespace Go.Am
open Go.Proofs

theorem setAll_all {Z X : List (List UInt8)} (h : Z.length = X.length) : setAll Z 0 X = X := by
  apply List.ext_getElem?
  intro i
  rw [setAll_get X Z 0 i (by omega)]
  split
  · rfl
  · rw [List.getElem?_eq_none (by omega), List.getElem?_eq_none (by omega)]

theorem mixB_get {bits : Nat} {old now : List (List UInt8)} {n : Nat} (ho : old.length = n) (hn : now.length = n) (i : Nat) : (mixB bits old now n)[i]? = old[i]? ∨ (mixB bits old now n)[i]? = now[i]? := by
  by_cases h : i < n
  · obtain ⟨o, eo⟩ := get_at old (i := i) (by omega)
    obtain ⟨w, ew⟩ := get_at now (i := i) (by omega)
    have e : (mixB bits old now n)[i]? = some (if bits / 2 ^ i % 2 = 0 then old.getD i [] else now.getD i []) := by simp [mixB, h]
    rw [e, List.getD_eq_getElem?_getD, List.getD_eq_getElem?_getD, eo, ew]
    split
    · exact .inl rfl
    · exact .inr rfl
  · left
    rw [List.getElem?_eq_none (by rw [mixB_len]; omega), List.getElem?_eq_none (by omega)]

def crd (vw : Nat) (want : List (List UInt8)) (v : Nat) (du : List (List UInt8)) : Store :=
  [((4, 0), .arr 1 vw false (want.map Bs)), ((5, 0), dskB (.rsl (5, 1) v 1 0 du.length) .nils 0 0), ((5, 1), .arr 1 v false (du.map Bs))]

def crashPost (q : AEx × St) : Prop :=
  (q.1 = .ret ∧ ∃ objs, hd [2] [] q.2 = some ⟨[(2, .dat (.bool true))], objs⟩) ∨
  (q.1 = .exit 0 ∧ ∃ v vw want du e m, JInv du want e m ∧ m ≤ 12 ∧ du.length = 20 ∧ want.length ≤ 12 ∧ hd [3, 4] [] q.2 = some ⟨[(3, .rsl (4, 0) vw 1 0 want.length), (4, .ref (5, 0) 0)], crd vw want v du⟩)

theorem crash_loop (lives : KJ 8 [] [] = some (.dat (.bool true), [])) : ∀ (rest pre : List (List UInt8 × Nat)) (v vw : Nat) (want du : List (List UInt8)) (e m : Nat) (s : St), pre.length + rest.length ≤ 12 → (∀ x ∈ rest, x.2 < 4294967296) → JInv du want e m → m ≤ pre.length → du.length = 20 → want.length ≤ pre.length →
    hd [0, 3, 4, 6] [0, 3, 4] s = some ⟨[(0, .dat (.sl ((pre ++ rest).map Fl))), (3, .rsl (4, 0) vw 1 0 want.length), (4, .ref (5, 0) 0), (6, .dat (.int .i64 pre.length))], crd vw want v du⟩ →
    Ev (loopLim (exec KJ l3_1) s) crashPost := by
  intro rest
  induction rest with
  | nil =>
    intro pre v vw want du e m s hl hbits hJ hm hn hw hs
    apply ev_loop
    generalize hQ : crashPost = Q
    simp [hs, crd, dskB]
    rw [← hQ]
    exact .inr ⟨rfl, v, vw, want, du, e, m, hJ, by omega, hn, by omega, by simp [crd, dskB]⟩
  | cons x rest ih =>
    intro pre v vw want du e m s hl hbits hJ hm hn hw hs
    apply ev_loop
    obtain ⟨b, bits⟩ := x
    rw [List.length_cons] at hl
    have hbt := hbits (b, bits) (by simp)
    have hx : Ix pre.length := by unfold Ix; omega
    by_cases hb : b.length ≤ 300
    · have hb1 : ¬ (300 : Int) < b.length := by omega
      have hb2 : ¬ 300 < b.length := by omega
      obtain ⟨hmost, hJ2⟩ := hJ.most
      have hopen := open_run (v := v) (du := du) (cr := 0) (op := 0) (pe := []) (.inl ⟨rfl, rfl, rfl⟩) (by simp) hJ.len (by simp) (by omega) (by omega) (by omega) (by rw [allC_nil]; omega)
      rw [allC_nil, hJ.scan] at hopen
      generalize mostB du 0 = M at *
      obtain ⟨rv, ro, hr, hopen⟩ := hopen
      dsimp only at hr
      have hcon := contents_run v du 0 1 20 hn.symm hJ.len (by omega)
      have hlists := lists_ref vw want want (by omega)
      have hg : (want == want) = true := by simp
      rw [hg] at hlists
      simp [dsk, dskB, jouB] at hopen
      simp [dsk, dskB] at hcon
      by_cases hfit : e + (imageB b want.length (M + 1)).length ≤ du.length
      · have hW := inv_write (b := b) hJ2 (ep := M + 1) (by omega) (by omega) hfit (by omega) (by omega) (by omega)
        obtain ⟨ch, hch1, hch2⟩ := inv_changed (b := b) hJ2 (ep := M + 1) (by omega) (by omega) hfit
        have hmixI := fun mix h1 h2 h3 => inv_mix (b := b) hJ2 (ep := M + 1) (by omega) (by omega) hfit (by omega) (by omega) (mix := mix) h1 h2 h3
        have hDl := setAll_len (imageB b want.length (M + 1)) du e
        have happA := fun h0 => append_a v du 0 1 e (M + 1) b (by omega) hJ.le (by omega) (by omega) h0
        have happB := fun vr => append_b v vr want du 0 1 e (M + 1) b (by omega) hJ.le (by omega) (by omega) (by omega) hfit
        have hne : (du == setAll du e (imageB b want.length (M + 1))) = false := by
          apply Bool.eq_false_iff.2
          intro h
          have h := LawfulBEq.eq_of_beq h
          rw [← h] at hch2
          exact hch2 rfl
        generalize hSA : setAll du e (imageB b want.length (M + 1)) = D at *
        have hcon2 := contents_run v D 0 1 20 (by omega) hW.len (by omega)
        obtain ⟨vn, hnd⟩ := newDisk_run 20 (by omega) (by omega)
        have harr := fun s pv ps hp h => arr_loop (pre ++ (b, bits) :: rest) pre.length vw want vn (List.replicate 20 zeroS) (by simp) du D hn (by omega) hJ.len hW.len b bits (by simp) hbt 20 0 pv ps s (by omega) hp h
        have hXl := mixB_len bits du D 20
        have hXg := mixB_get (bits := bits) hn (by omega : D.length = 20)
        rw [hne] at harr
        have hZl : (List.replicate 20 zeroS).length = 20 := by simp
        generalize List.replicate 20 zeroS = Z at *
        generalize hX : mixB bits du D 20 = X at *
        have e1 : pre ++ (b, bits) :: rest = (pre ++ [(b, bits)]) ++ rest := by simp
        have hrw1 : (want.length + 1) * 25 ≤ 1099511627776 := by omega
        have ih2 := ih (pre ++ [(b, bits)])
        have hb2' : ∀ x ∈ rest, x.2 < 4294967296 := fun x hx => hbits x (by simp [hx])
        have hsync : ∀ v2, KJ 16 [.ref (0, 0) 0] (dsk vn Z 0 0 (.rsl (0, 2) v2 2 0 (wrs X 0).length) [.arr 2 v2 false ((wrs X 0).map pnd)]) = some (.dat (.int .i64 0), dsk vn X 0 0 .nils [.arr 2 v2 false ((wrs X 0).map pnd)]) := by
          intro v2
          rw [sync_run vn v2 Z 0 0 (wrs X 0) (wrs_in X 0 Z.length (by omega)) (by rw [wrs_len]; omega), sync_wrs, setAll_all (by omega)]
        have hwl := wrs_len X 0
        simp [dsk, dskB] at hnd hcon2
        rw [hDl] at hcon2
        generalize hQ : crashPost = Q at ih2 ⊢
        have final : ∀ (pv : AVal) (ps : Store), True := fun _ _ => trivial
        rcases hr with ⟨h0, rfl, rfl⟩ | ⟨vr, rfl, rfl⟩
        · have happ := happA (by rw [h0] at hfit; exact hfit)
          rw [h0] at hSA
          rw [show setAll du e (imageB b 0 (M + 1)) = D from hSA] at happ
          simp [jouA, dskB] at happ
          simp [hs, crd, dskB, hb1, hb2, hx, hopen, hcon, hcon2, hlists, happ, hnd]
          simp only [ev_bnd_iff]
          refine Ev.mono (harr _ .nils [] (.inl ⟨rfl, rfl, rfl⟩) (by simp [crs, dskB, mixB])) ?_
          rintro ⟨_, s⟩ ⟨rfl, pv, ps, hp, hs⟩
          dsimp only at hs
          rcases hp with ⟨rfl, rfl, h1⟩ | ⟨v2, rfl, rfl⟩
          · rw [h1] at hwl
            simp at hwl
            omega
          · have hsy := hsync v2
            simp [dsk, dskB] at hsy
            cases hXD : (X == D) with
            | true =>
              have hXD' : X = D := LawfulBEq.eq_of_beq hXD
              rw [hXD] at hs
              simp [hs, crs, dskB, hsy, hx, hrw1]
              refine Ev.mono (ih2 vn (vw + 1) (want ++ [b]) X _ _ _ (by simp; omega) hb2' (by rw [hXD']; exact hW) (by simp; omega) hXl (by simp; omega) ?_) (fun _ h => h)
              simp [crd, dskB, hXl, hZl]
            | false =>
              have hXD' : X ≠ D := fun h => by rw [h] at hXD; simp at hXD
              rw [hXD] at hs
              simp [hs, crs, dskB, hsy, hx]
              refine Ev.mono (ih2 vn vw want X _ _ _ (by simp; omega) hb2' (hmixI X (by omega) hXg hXD') (by simp; omega) hXl (by simp; omega) ?_) (fun _ h => h)
              simp [crd, dskB, hXl, hZl]
        · have happ := happB vr
          simp [jouA, dskB] at happ
          simp [hs, crd, dskB, hb1, hb2, hx, hopen, hcon, hcon2, hlists, happ, hnd]
          simp only [ev_bnd_iff]
          refine Ev.mono (harr _ .nils [] (.inl ⟨rfl, rfl, rfl⟩) (by simp [crs, dskB, mixB])) ?_
          rintro ⟨_, s⟩ ⟨rfl, pv, ps, hp, hs⟩
          dsimp only at hs
          rcases hp with ⟨rfl, rfl, h1⟩ | ⟨v2, rfl, rfl⟩
          · rw [h1] at hwl
            simp at hwl
            omega
          · have hsy := hsync v2
            simp [dsk, dskB] at hsy
            cases hXD : (X == D) with
            | true =>
              have hXD' : X = D := LawfulBEq.eq_of_beq hXD
              rw [hXD] at hs
              simp [hs, crs, dskB, hsy, hx, hrw1]
              refine Ev.mono (ih2 vn (vw + 1) (want ++ [b]) X _ _ _ (by simp; omega) hb2' (by rw [hXD']; exact hW) (by simp; omega) hXl (by simp; omega) ?_) (fun _ h => h)
              simp [crd, dskB, hXl, hZl]
            | false =>
              have hXD' : X ≠ D := fun h => by rw [h] at hXD; simp at hXD
              rw [hXD] at hs
              simp [hs, crs, dskB, hsy, hx]
              refine Ev.mono (ih2 vn vw want X _ _ _ (by simp; omega) hb2' (hmixI X (by omega) hXg hXD') (by simp; omega) hXl (by simp; omega) ?_) (fun _ h => h)
              simp [crd, dskB, hXl, hZl]
      · have happA := fun h0 => append_full_a v du 0 1 e (M + 1) b (by omega) hJ.le (by omega) (by omega) h0
        have happB := fun vr => append_full_b v vr want du 0 1 e (M + 1) b (by omega) hJ.le (by omega) (by omega) (by omega) hfit
        generalize hQ : crashPost = Q
        rcases hr with ⟨h0, rfl, rfl⟩ | ⟨vr, rfl, rfl⟩
        · obtain ⟨os', happ, rfl⟩ := happA (by rw [h0] at hfit; exact hfit)
          simp [jouA, dskB] at happ
          simp [hs, crd, dskB, hb1, hb2, hx, hopen, hcon, hlists, happ, lives]
          rw [← hQ]
          exact .inl ⟨rfl, _, by simp; rfl⟩
        · obtain ⟨os', happ, rfl⟩ := happB vr
          simp [jouA, dskB] at happ
          simp [hs, crd, dskB, hb1, hb2, hx, hopen, hcon, hlists, happ, lives]
          rw [← hQ]
          exact .inl ⟨rfl, _, by simp; rfl⟩
    · have hb1 : (300 : Int) < b.length := by omega
      have hb2 : 300 < b.length := by omega
      generalize hQ : crashPost = Q
      simp [hs, crd, dskB, hb1, hb2, lives]
      rw [← hQ]
      exact .inl ⟨rfl, _, by simp; rfl⟩

theorem journalCrash_run (lives : KJ 8 [] [] = some (.dat (.bool true), [])) (l : List (List UInt8 × Nat)) (hbits : ∀ x ∈ l, x.2 < 4294967296) : KJ 3 [.dat (.sl (l.map Fl))] [] = some (.dat (.bool true), []) := by
  refine callT_ev (fn := fn3) rfl rfl ?_
  by_cases hl : l.length ≤ 12
  · have hl1 : ¬ (12 : Int) < l.length := by omega
    have hl2 : ¬ 12 < l.length := by omega
    obtain ⟨v, hnd⟩ := newDisk_run 20 (by omega) (by omega)
    have hlp := fun s h => crash_loop lives l [] v 0 [] (List.replicate 20 zeroS) 0 0 s (by simpa using hl) hbits (inv_zero 20) (by omega) (by simp) (by simp) h
    generalize List.replicate 20 zeroS = Z at *
    simp [dsk, dskB] at hnd
    generalize hQ : crashPost = Q at hlp
    simp [runFun_eq, hl1, hl2, hnd]
    simp only [ev_bnd_iff]
    refine Ev.mono (hlp _ (by simp [crd, dskB])) ?_
    rw [← hQ]
    rintro ⟨x, s⟩ (⟨rfl, objs, hs⟩ | ⟨rfl, v, vw, want, du, e, m, hJ, hm, hn, hw, hs⟩)
    · dsimp only at hs
      simp only [blkK, Ev_some, seqK, endK_hd hs]
      simp
    · dsimp only at hs
      obtain ⟨hmost, hJ2⟩ := hJ.most
      have hopen := open_run (v := v) (du := du) (cr := 0) (op := 0) (pe := []) (.inl ⟨rfl, rfl, rfl⟩) (by simp) hJ.len (by simp) (by omega) (by omega) (by omega) (by rw [allC_nil]; omega)
      rw [allC_nil, hJ.scan] at hopen
      obtain ⟨rv, ro, hr, hopen⟩ := hopen
      have hlists := lists_ref vw want want (by omega)
      have hg : (want == want) = true := by simp
      rw [hg] at hlists
      rcases hr with ⟨hp0, rfl, rfl⟩ | ⟨vr, rfl, rfl⟩
      · simp [dsk, dskB, jouB] at hopen
        simp [hs, crd, dskB, hopen, hlists, lives]
      · simp [dsk, dskB, jouB] at hopen
        simp [hs, crd, dskB, hopen, hlists, lives]
  · have hl1 : (12 : Int) < l.length := by omega
    have hl2 : 12 < l.length := by omega
    simp [runFun_eq, hl1, hl2, lives]
end Go.Am
