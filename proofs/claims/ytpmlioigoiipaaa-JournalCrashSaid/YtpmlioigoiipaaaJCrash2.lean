/- The law JournalCrash, walked: which sectors arrive. -/
import Derived.Test.YtpmlioigoiipaaaJCrash
set_option linter.unusedVariables false
set_option linter.unusedSimpArgs false
set_option maxRecDepth 10000
namespace Go.Am
open Go.Proofs

def mixB (bits : Nat) (old now : List (List UInt8)) (k : Nat) : List (List UInt8) := (List.range k).map fun j => if bits / 2 ^ j % 2 = 0 then old.getD j [] else now.getD j []

theorem mixB_len (bits : Nat) (old now : List (List UInt8)) (k : Nat) : (mixB bits old now k).length = k := by simp [mixB]
theorem mixB_succ (bits : Nat) (old now : List (List UInt8)) (k : Nat) : mixB bits old now (k + 1) = mixB bits old now k ++ [if bits / 2 ^ k % 2 = 0 then old.getD k [] else now.getD k []] := by
  rw [mixB, List.range_succ, List.map_append]; rfl

theorem snoc_beq : ∀ (X Y : List (List UInt8)) (b d : List UInt8), X.length = Y.length → (X ++ [b] == Y ++ [d]) = ((X == Y) && (b == d))
  | [], [], b, d, _ => by simp
  | x :: X, y :: Y, b, d, h => by
    have := snoc_beq X Y b d (by simpa using h)
    rw [List.cons_append, List.cons_append, List.cons_beq_cons, List.cons_beq_cons, this, Bool.and_assoc]
  | [], _ :: _, _, _, h => by simp at h
  | _ :: _, [], _, _, h => by simp at h

/-- a failure as a datum -/
@[simp] def Fl (x : List UInt8 × Nat) : Dat := .agg [Bs x.1, .int .u32 x.2]

def crs (vw : Nat) (want : List (List UInt8)) (v n : Nat) (du : List (List UInt8)) (pv : AVal) (ps : Store) : Store :=
  ((4, 0), .arr 1 vw false (want.map Bs)) :: ((14, 0), dskB (.rsl (14, 1) v 1 0 n) pv 0 0) :: ((14, 1), .arr 1 v false (du.map Bs)) :: ps

def arrPost (l : List (List UInt8 × Nat)) (i vw : Nat) (want : List (List UInt8)) (v : Nat) (du : List (List UInt8)) (a c : Bool) (X : List (List UInt8)) (q : AEx × St) : Prop := q.1 = .exit 2 ∧ ∃ pv ps, PendI (14, 2) (wrs X 0) pv ps ∧
  hd [0, 3, 6, 13, 15, 16] [] q.2 = some ⟨[(0, .dat (.sl (l.map Fl))), (3, .rsl (4, 0) vw 1 0 want.length), (6, .dat (.int .i64 i)), (13, .ref (14, 0) 0), (15, .dat (.bool a)), (16, .dat (.bool c))], crs vw want v du.length du pv ps⟩

theorem and1_u32 (x : Nat) (h : x < 4294967296) : intE .and .u32 (x : Int) 1 = some (.dat (.int .u32 ((x % 2 : Nat) : Int))) := by
  have := (intE_bits (k := .u32) (a := x) (b := 1) rfl (by rw [bits_u32]; omega) (by rw [bits_u32]; omega)).1
  rw [Nat.and_one_is_mod] at this
  exact this

theorem arr_loop (l : List (List UInt8 × Nat)) (i vw : Nat) (want : List (List UInt8)) (v : Nat) (du : List (List UInt8)) (hdu : du.length = 20) (old now : List (List UInt8)) (ho : old.length = 20) (hn : now.length = 20) (h64 : ∀ d ∈ old, d.length = 64) (h64' : ∀ d ∈ now, d.length = 64)
    (b : List UInt8) (bits : Nat) (hl : l[i]? = some (b, bits)) (hbits : bits < 4294967296) :
    ∀ (m k : Nat) (pv : AVal) (ps : Store) (s : St), k + m = 20 → PendI (14, 2) (wrs (mixB bits old now k) 0) pv ps →
    hd [0, 3, 6, 10, 12, 13, 15, 16, 17] [0, 3, 10, 12, 13] s = some ⟨[(0, .dat (.sl (l.map Fl))), (3, .rsl (4, 0) vw 1 0 want.length), (6, .dat (.int .i64 i)), (10, .dat (.sl (old.map Bs))), (12, .dat (.sl (now.map Bs))), (13, .ref (14, 0) 0), (15, .dat (.bool (mixB bits old now k == now.take k))), (16, .dat (.bool (!(old.take k == now.take k)))), (17, .dat (.int .i64 k))], crs vw want v du.length du pv ps⟩ →
    Ev (loopLim (exec KJ l3_0) s) (arrPost l i vw want v du (mixB bits old now 20 == now) (!(old == now)) (mixB bits old now 20)) := by
  intro m
  induction m with
  | zero =>
    intro k pv ps s hk hp hs
    apply ev_loop
    have hk20 : k = 20 := by omega
    subst hk20
    have t1 : old.take 20 = old := by rw [← ho]; exact List.take_length
    have t2 : now.take 20 = now := by rw [← hn]; exact List.take_length
    rw [t1, t2] at hs
    generalize (mixB bits old now 20 == now) = a at *
    generalize (!(old == now)) = c at *
    generalize mixB bits old now 20 = X at *
    generalize hQ : arrPost l i vw want v du a c X = Q
    rcases hp with ⟨rfl, rfl, h0⟩ | ⟨v2, rfl, rfl⟩
    · simp [hs, crs, dskB]
      rw [← hQ]
      exact ⟨rfl, _, _, .inl ⟨rfl, rfl, h0⟩, by simp [crs, dskB]⟩
    · simp [hs, crs, dskB]
      rw [← hQ]
      exact ⟨rfl, _, _, .inr ⟨v2, rfl, rfl⟩, by simp [crs, dskB]⟩
  | succ m ih =>
    intro k pv ps s hk hp hs
    apply ev_loop
    have hlt : (k : Int) < 20 := by omega
    have hx : Ix k := by unfold Ix; omega
    obtain ⟨o, eo, eo'⟩ := get_at' old (i := k) (by omega)
    obtain ⟨w, ew, ew'⟩ := get_at' now (i := k) (by omega)
    have hil : i < l.length := by
      by_cases h : i < l.length
      · exact h
      · rw [List.getElem?_eq_none (by omega)] at hl; cases hl
    have hl' : ∀ h : i < l.length, l[i] = (b, bits) := by
      intro h
      rw [List.getElem?_eq_getElem h] at hl
      exact Option.some.inj hl
    have hfd : (bits : Int).fdiv (2 ^ k) = (bits : Int) / 2 ^ k := Int.fdiv_eq_ediv_of_nonneg _ (Int.pow_nonneg (by omega))
    have t1 : old.take (k + 1) = old.take k ++ [o] := by rw [List.take_add_one, eo]; rfl
    have t2 : now.take (k + 1) = now.take k ++ [w] := by rw [List.take_add_one, ew]; rfl
    have hml := mixB_len bits old now k
    have hgo : old.getD k [] = o := by rw [List.getD_eq_getElem?_getD, eo]; rfl
    have hgw : now.getD k [] = w := by rw [List.getD_eq_getElem?_getD, ew]; rfl
    have hb1 : (bits : Int) / 2 ^ k = ((bits / 2 ^ k : Nat) : Int) := by simp
    have hmin : min k 32 = k := by omega
    have hand := and1_u32 (bits / 2 ^ k) (Nat.lt_of_le_of_lt (Nat.div_le_self _ _) hbits)
    have hso := same_run o w
    have hsw := same_run w w
    have hww : (w == w) = true := by simp
    rw [hww] at hsw
    have ih2 := ih (k + 1)
    rw [mixB_succ, t1, t2, snoc_beq _ _ _ _ (by rw [hml, List.length_take]; omega), snoc_beq _ _ _ _ (by rw [List.length_take, List.length_take]; omega), wrs_snoc, hml, hgo, hgw] at ih2
    have hw64 := h64' w (List.mem_of_getElem? ew)
    have ho64 := h64 o (List.mem_of_getElem? eo)
    have hwl := wrs_len (mixB bits old now k) 0
    generalize hQ : arrPost l i vw want v du _ _ _ = Q at ih2 ⊢
    generalize (mixB bits old now k == now.take k) = a at *
    generalize (old.take k == now.take k) = c at *
    generalize hpe : wrs (mixB bits old now k) 0 = pe at *
    have hpl : pe.length = k := by omega
    by_cases hbit : bits / 2 ^ k % 2 = 0
    · rw [if_pos hbit] at ih2
      have hand' : intE .and .u32 ((bits / 2 ^ k : Nat) : Int) 1 = some (.dat (.int .u32 0)) := by rw [hand, hbit]; rfl
      simp at hand'
      have hwr : ∀ pv po, Pend pe pv po → _ := fun pv po hp => write_run (v := v) (du := du) (cr := 0) (op := 0) (pe := pe) (pv := pv) (po := po) hp (by omega) (i := k) (by omega) ho64
      rcases hp with ⟨rfl, rfl, h0⟩ | ⟨v2, rfl, rfl⟩
      · obtain ⟨v3, hw⟩ := hwr _ _ (.inl ⟨rfl, rfl, h0⟩)
        subst h0
        simp [dsk, dskB] at hw
        cases a <;> cases c <;> simp [hs, crs, dskB, hlt, hx, hl, hl', hil, eo, eo', ew, ew', hmin, hfd, hand', hso, hw]
        all_goals
          refine Ev.mono (ih2 _ _ _ (by omega) (.inr ⟨v3, rfl, rfl⟩) (by simp [crs, dskB])) (fun _ h => h)
      · obtain ⟨v3, hw⟩ := hwr _ _ (.inr ⟨v2, rfl, rfl⟩)
        simp [dsk, dskB] at hw
        cases a <;> cases c <;> simp [hs, crs, dskB, hlt, hx, hl, hl', hil, eo, eo', ew, ew', hmin, hfd, hand', hso, hw]
        all_goals
          refine Ev.mono (ih2 _ _ _ (by omega) (.inr ⟨v3, rfl, rfl⟩) (by simp [crs, dskB])) (fun _ h => h)
    · rw [if_neg hbit] at ih2
      have hand' : intE .and .u32 ((bits / 2 ^ k : Nat) : Int) 1 = some (.dat (.int .u32 1)) := by rw [hand, show bits / 2 ^ k % 2 = 1 from by omega]; rfl
      simp at hand'
      have hwr : ∀ pv po, Pend pe pv po → _ := fun pv po hp => write_run (v := v) (du := du) (cr := 0) (op := 0) (pe := pe) (pv := pv) (po := po) hp (by omega) (i := k) (by omega) hw64
      rcases hp with ⟨rfl, rfl, h0⟩ | ⟨v2, rfl, rfl⟩
      · obtain ⟨v3, hw⟩ := hwr _ _ (.inl ⟨rfl, rfl, h0⟩)
        subst h0
        simp [dsk, dskB] at hw
        cases a <;> cases c <;> simp [hs, crs, dskB, hlt, hx, hl, hl', hil, eo, eo', ew, ew', hmin, hfd, hand', hso, hsw, hw]
        all_goals
          refine Ev.mono (ih2 _ _ _ (by omega) (.inr ⟨v3, rfl, rfl⟩) (by simp [crs, dskB])) (fun _ h => h)
      · obtain ⟨v3, hw⟩ := hwr _ _ (.inr ⟨v2, rfl, rfl⟩)
        simp [dsk, dskB] at hw
        cases a <;> cases c <;> simp [hs, crs, dskB, hlt, hx, hl, hl', hil, eo, eo', ew, ew', hmin, hfd, hand', hso, hsw, hw]
        all_goals
          refine Ev.mono (ih2 _ _ _ (by omega) (.inr ⟨v3, rfl, rfl⟩) (by simp [crs, dskB])) (fun _ h => h)
end Go.Am
