/- Walks: a journal, opened. -/
import Derived.Test.YtpmlioigoiipaaaJW12
set_option linter.unusedVariables false
set_option linter.unusedSimpArgs false
set_option maxRecDepth 10000
namespace Go.Am
open Go.Proofs

def mostB : List (List UInt8) → Nat → Nat
  | [], m => m
  | d :: r, m => mostB r (if m < num4 d then num4 d else m)

theorem mostB_lt : ∀ (l : List (List UInt8)) (m : Nat), m < 4294967296 → mostB l m < 4294967296
  | [], m, h => h
  | d :: r, m, h => by
    have := num4_lt d
    exact mostB_lt r _ (by split <;> omega)

def mstPost (v : Nat) (du : List (List UInt8)) (cr op : Int) (pv : AVal) (po : List Obj) (m : Nat) (q : AEx × St) : Prop := q.1 = .exit 0 ∧
  hd [0, 5] [] q.2 = some ⟨[(0, .ref (0, 0) 0), (5, .dat (.int .u32 m))], dst v du cr op pv po⟩

theorem mst_loop {v : Nat} {du : List (List UInt8)} {pe : List (Int × List UInt8)} {cr op : Int} {pv : AVal} {po : List Obj} (hp : Pend pe pv po) (hl : pe.length < 1000000000) (h64 : ∀ d ∈ du, d.length = 64) (h64' : ∀ w ∈ pe, w.2.length = 64) (hdl : du.length ≤ 4096) :
    ∀ (n i m : Nat) (s : St), i + n = du.length → m < 4294967296 →
    hd [0, 5, 19, 20] [0] s = some ⟨[(0, .ref (0, 0) 0), (5, .dat (.int .u32 m)), (19, .dat (.int .i64 du.length)), (20, .dat (.int .i64 i))], dst v du cr op pv po⟩ →
    Ev (loopLim (exec KJ l10_0) s) (mstPost v du cr op pv po (mostB ((allC du pe).drop i) m)) := by
  intro n
  induction n with
  | zero =>
    intro i m s hi hm hs
    apply ev_loop
    have h0 : (allC du pe).drop i = [] := List.drop_of_length_le (by rw [allC_len]; omega)
    have hi' : i = du.length := by omega
    subst hi'
    rw [h0]
    rcases hp with ⟨rfl, rfl, rfl⟩ | ⟨v2, rfl, rfl⟩ <;> simp [hs, mstPost, dst, dskB, mostB]
  | succ n ih =>
    intro i m s hi hm hs
    apply ev_loop
    have hlt : i < du.length := by omega
    have hx : Ix i := by unfold Ix; omega
    have hc := content_run (v := v) (du := du) (cr := cr) (op := op) hp hl (i := i) hlt
    have hlen := cont_len h64 h64' hlt
    have hnum := number_run (cont du pe i) (by omega)
    have hnl := num4_lt (cont du pe i)
    have hdr : (allC du pe).drop i = cont du pe i :: (allC du pe).drop (i + 1) := by
      have := allC_get du pe hlt
      rw [List.drop_eq_getElem_cons (by rw [allC_len]; exact hlt)]
      rw [List.getElem?_eq_getElem (by rw [allC_len]; exact hlt)] at this
      rw [Option.some.inj this]
    rw [hdr, mostB]
    have ih2 := ih (i + 1) (if m < num4 (cont du pe i) then num4 (cont du pe i) else m)
    generalize hQ : mstPost v du cr op pv po _ = Q at ih2 ⊢
    generalize hX : cont du pe i = X at *
    by_cases hgt : m < num4 X
    · have hgt' : (num4 X : Int) > m := by omega
      rcases hp with ⟨rfl, rfl, rfl⟩ | ⟨v2, rfl, rfl⟩ <;> simp [dsk, dskB] at hc
      all_goals
        simp [hs, dst, dskB, hlt, hx, hc, hnum, hgt]
        refine Ev.mono (ih2 _ (by omega) (by split <;> omega) (by simp [dst, dskB, hgt])) (fun _ h => h)
    · have hgt' : ¬ (num4 X : Int) > m := by omega
      rcases hp with ⟨rfl, rfl, rfl⟩ | ⟨v2, rfl, rfl⟩ <;> simp [dsk, dskB] at hc
      all_goals
        simp [hs, dst, dskB, hlt, hx, hc, hnum, hgt]
        refine Ev.mono (ih2 _ (by omega) (by split <;> omega) (by simp [dst, dskB, hgt])) (fun _ h => h)

/-- the records from a sector on, and where they end -/
def scanB : Nat → List (List UInt8) → Nat → Nat → List (List UInt8) × Nat
  | 0, _, at', _ => ([], at')
  | f + 1, all, at', n => match recB all at' n with
    | none => ([], at')
    | some (p, k) => (p :: (scanB f all (at' + k) (n + 1)).1, (scanB f all (at' + k) (n + 1)).2)

def jouB (recs : AVal) (next : Nat) (ep : Nat) (cr op : Int) : Obj := .box [.ref (0, 0) 0, recs, .dat (.int .i64 next), .dat (.int .u32 ep), .dat (.int .i64 cr), .dat (.int .i64 op)]

def RecS (rs : List (List UInt8)) (rv : AVal) (ro : Store) : Prop := (rs = [] ∧ rv = .nils ∧ ro = []) ∨ ∃ vr, rv = .rsl (8, 2) vr 1 0 rs.length ∧ ro = [((8, 2), .arr 1 vr false (rs.map Bs))]

def opnPost (v : Nat) (du : List (List UInt8)) (cr op : Int) (pv : AVal) (po : List Obj) (ep : Nat) (rs : List (List UInt8)) (e : Nat) (q : AEx × St) : Prop := q.1 = .ret ∧ ∃ rv ro vo, RecS rs rv ro ∧
  hd [2, 3, 4] [] q.2 = some ⟨[(2, .ref (8, 0) 0), (3, .rsl (9, 0) vo 1 0 rs.length), (4, .dat (.int .i64 0))], dst v du cr op pv po ++ [((8, 0), jouB rv e ep cr op), ((9, 0), .arr 1 vo false (rs.map Bs))] ++ ro⟩

theorem recB_some {all : List (List UInt8)} {at' n : Nat} {p : List UInt8} {k : Nat} (h : recB all at' n = some (p, k)) : at' < all.length ∧ 1 ≤ k ∧ at' + k ≤ all.length ∧ imageB p n (num4 (all.getD at' [])) = (all.drop at').take k := by
  unfold recB at h
  split at h
  · cases h
  · rename_i h0
    split at h
    · cases h
    · rename_i h1
      split at h
      · cases h
      · split at h
        · rename_i h2
          cases h
          refine ⟨by omega, ?_, ?_, h2⟩
          · by_cases hk : recB.num2 (all.getD at' []) = 0
            · exact absurd (.inr (.inl hk)) h1
            · omega
          · by_cases hk : all.length < at' + recB.num2 (all.getD at' [])
            · exact absurd (.inr (.inr hk)) h1
            · omega
        · cases h

theorem opn_loop {v : Nat} {du : List (List UInt8)} {pe : List (Int × List UInt8)} {cr op : Int} {pv : AVal} {po : List Obj} (hp : Pend pe pv po) (hl : pe.length < 1000000000) (h64 : ∀ d ∈ du, d.length = 64) (h64' : ∀ w ∈ pe, w.2.length = 64) (hdl : du.length ≤ 4096) (ep : Nat) :
    ∀ (f at' vo : Nat) (rs : List (List UInt8)) (rv : AVal) (ro : Store) (s : St), du.length + 1 ≤ f + at' → at' ≤ du.length → rs.length ≤ at' → RecS rs rv ro →
    hd [0, 7, 8] [0, 7, 8] s = some ⟨[(0, .ref (0, 0) 0), (7, .ref (8, 0) 0), (8, .rsl (9, 0) vo 1 0 rs.length)], dst v du cr op pv po ++ [((8, 0), jouB rv at' ep cr op), ((9, 0), .arr 1 vo false (rs.map Bs))] ++ ro⟩ →
    Ev (loopLim (exec KJ l10_1) s) (opnPost v du cr op pv po ep (rs ++ (scanB f (allC du pe) at' rs.length).1) (scanB f (allC du pe) at' rs.length).2) := by
  intro f
  induction f with
  | zero => intro at' vo rs rv ro s hf ha; omega
  | succ f ih =>
    intro at' vo rs rv ro s hf ha hrs hr hs
    apply ev_loop
    have hrec := record_run (v := v) (cr := cr) (op := op) hp hl h64 h64' hdl at' rs.length (by omega) (by omega)
    have hm : (rs.length : Int) % 4294967296 = rs.length := by omega
    have hm' : rs.length % 4294967296 = rs.length := by omega
    cases hR : recB (allC du pe) at' rs.length with
    | none =>
      rw [hR] at hrec
      have hsc : scanB (f + 1) (allC du pe) at' rs.length = ([], at') := by simp [scanB, hR]
      rw [hsc]
      simp only [recV] at hrec
      rcases hp with ⟨rfl, rfl, rfl⟩ | ⟨v2, rfl, rfl⟩ <;> rcases hr with ⟨rfl, rfl, rfl⟩ | ⟨vr, rfl, rfl⟩ <;> simp [dsk, dskB] at hrec
      · simp [hs, dst, dskB, jouB, hrec, hm]
        exact ⟨rfl, _, _, vo, .inl ⟨rfl, rfl, rfl⟩, by simp [dst, dskB, jouB]⟩
      · simp [hs, dst, dskB, jouB, hrec, hm]
        exact ⟨rfl, _, _, vo, .inr ⟨vr, rfl, rfl⟩, by simp [dst, dskB, jouB]⟩
      · simp [hs, dst, dskB, jouB, hrec, hm]
        exact ⟨rfl, _, _, vo, .inl ⟨rfl, rfl, rfl⟩, by simp [dst, dskB, jouB]⟩
      · simp [hs, dst, dskB, jouB, hrec, hm]
        exact ⟨rfl, _, _, vo, .inr ⟨vr, rfl, rfl⟩, by simp [dst, dskB, jouB]⟩
    | some pk =>
      obtain ⟨p, k⟩ := pk
      rw [hR] at hrec
      obtain ⟨r1, r2, r3, r4⟩ := recB_some hR
      rw [allC_len] at r1 r3
      have hsc : scanB (f + 1) (allC du pe) at' rs.length = (p :: (scanB f (allC du pe) (at' + k) (rs.length + 1)).1, (scanB f (allC du pe) (at' + k) (rs.length + 1)).2) := by simp [scanB, hR]
      rw [hsc]
      have hpl : p.length < 100000000000 := by
        have := imageB_len p rs.length (num4 ((allC du pe).getD at' []))
        rw [r4, List.length_take, List.length_drop, allC_len] at this
        have h2 : p.length ≤ (sealB p).length := by simp [sealB]; omega
        unfold cntB at this
        omega
      have hcl := clone_run p hpl
      have hr1 : (rs.length + 1) * 25 ≤ 1099511627776 := by omega
      have hn1 : (at' : Int) + k < 1000000000000000 := by omega
      have hn2 : -1000000000000000 < (at' : Int) + k := by omega
      have e1 : rs ++ p :: (scanB f (allC du pe) (at' + k) (rs.length + 1)).1 = (rs ++ [p]) ++ (scanB f (allC du pe) (at' + k) (rs ++ [p]).length).1 := by simp
      have e2 : (scanB f (allC du pe) (at' + k) (rs.length + 1)).2 = (scanB f (allC du pe) (at' + k) (rs ++ [p]).length).2 := by simp
      dsimp only
      rw [e1, e2]
      have ih2 := ih (at' + k) (vo + 1) (rs ++ [p])
      generalize hQ : opnPost v du cr op pv po ep _ _ = Q at ih2 ⊢
      simp only [recV] at hrec
      rcases hp with ⟨rfl, rfl, rfl⟩ | ⟨v2, rfl, rfl⟩ <;> rcases hr with ⟨rfl, rfl, rfl⟩ | ⟨vr, rfl, rfl⟩ <;> simp [dsk, dskB] at hrec
      · simp [hs, dst, dskB, jouB, hrec, hm, hcl, hr1, hn1, hn2]
        refine Ev.mono (ih2 _ _ _ (by omega) (by omega) (by simp; omega) (.inr ⟨0, rfl, rfl⟩) (by simp [dst, dskB, jouB])) (fun _ h => h)
      · simp [hs, dst, dskB, jouB, hrec, hm, hcl, hr1, hn1, hn2]
        refine Ev.mono (ih2 _ _ _ (by omega) (by omega) (by simp; omega) (.inr ⟨vr + 1, rfl, rfl⟩) (by simp [dst, dskB, jouB])) (fun _ h => h)
      · simp [hs, dst, dskB, jouB, hrec, hm, hcl, hr1, hn1, hn2]
        refine Ev.mono (ih2 _ _ _ (by omega) (by omega) (by simp; omega) (.inr ⟨0, rfl, rfl⟩) (by simp [dst, dskB, jouB])) (fun _ h => h)
      · simp [hs, dst, dskB, jouB, hrec, hm, hcl, hr1, hn1, hn2]
        refine Ev.mono (ih2 _ _ _ (by omega) (by omega) (by simp; omega) (.inr ⟨vr + 1, rfl, rfl⟩) (by simp [dst, dskB, jouB])) (fun _ h => h)
end Go.Am
