/- Walks: the disk, read and written. -/
import Derived.Test.YtpmlioigoiipaaaJW7
set_option linter.unusedVariables false
set_option linter.unusedSimpArgs false
set_option maxRecDepth 10000
namespace Go.Am
open Go.Proofs

theorem or_add {k : IntKind} (hk : k.signed = false) {a b i : Nat} (ha : a < 2 ^ i) (h : 2 ^ i * b + a < 2 ^ k.bits) : intE .or k (a : Int) ((2 ^ i * b : Nat) : Int) = some (.dat (.int k ((a + 2 ^ i * b : Nat) : Int))) := by
  rw [(intE_bits hk (by omega) (by omega)).2.1, Nat.or_comm, ← Nat.two_pow_add_eq_or_of_lt ha, Nat.add_comm]

theorem number_run (l : List UInt8) (h : 4 ≤ l.length) : KJ 35 [.dat (.sl (l.map B))] [] = some (.dat (.int .u32 (num4 l)), []) := by
  refine callT_ev (fn := fn35) rfl rfl ?_
  obtain ⟨b0, e0, f0⟩ := get_at' l (i := 0) (by omega)
  obtain ⟨b1, e1, f1⟩ := get_at' l (i := 1) (by omega)
  obtain ⟨b2, e2, f2⟩ := get_at' l (i := 2) (by omega)
  obtain ⟨b3, e3, f3⟩ := get_at' l (i := 3) (by omega)
  have hn : num4 l = b0.toNat + 256 * b1.toNat + 65536 * b2.toNat + 16777216 * b3.toNat := by
    simp only [num4, List.getD_eq_getElem?_getD, e0, e1, e2, e3, Option.getD_some]
  have l0 := byte_lt b0
  have l1 := byte_lt b1
  have l2 := byte_lt b2
  have l3 := byte_lt b3
  rw [hn]
  have g0 : (b0.toNat : Int) % 4294967296 = b0.toNat := by omega
  have g1 : (b1.toNat : Int) % 4294967296 * 256 % 4294967296 = ((2 ^ 8 * b1.toNat : Nat) : Int) := by omega
  have g2 : (b2.toNat : Int) % 4294967296 * 65536 % 4294967296 = ((2 ^ 16 * b2.toNat : Nat) : Int) := by omega
  have g3 : (b3.toNat : Int) % 4294967296 * 16777216 % 4294967296 = ((2 ^ 24 * b3.toNat : Nat) : Int) := by omega
  have o1 := or_add (k := .u32) rfl (a := b0.toNat) (b := b1.toNat) (i := 8) (by omega) (by rw [bits_u32]; omega)
  have o2 := or_add (k := .u32) rfl (a := b0.toNat + 2 ^ 8 * b1.toNat) (b := b2.toNat) (i := 16) (by omega) (by rw [bits_u32]; omega)
  have o3 := or_add (k := .u32) rfl (a := b0.toNat + 2 ^ 8 * b1.toNat + 2 ^ 16 * b2.toNat) (b := b3.toNat) (i := 24) (by omega) (by rw [bits_u32]; omega)
  simp at o1 o2 o3 g1 g2 g3
  simp [runFun_eq, e0, e1, e2, e3, g0, g1, g2, g3, o1, o2, o3]

theorem cont_len {du : List (List UInt8)} {pe : List (Int × List UInt8)} (h1 : ∀ d ∈ du, d.length = 64) (h2 : ∀ w ∈ pe, w.2.length = 64) {i : Nat} (hi : i < du.length) : (cont du pe i).length = 64 := by
  unfold cont
  have : ∀ l : List (Int × List UInt8), (∀ w ∈ l, w.2.length = 64) → ∀ b, lastW l i = some b → b.length = 64 := by
    intro l
    induction l with
    | nil => intro _ b hb; cases hb
    | cons w r ih =>
      intro hw b hb
      simp only [lastW] at hb
      split at hb
      · rename_i b' hb'
        cases hb
        exact ih (fun w h => hw w (by simp [h])) _ hb'
      · split at hb
        · cases hb; exact hw w (by simp)
        · cases hb
  cases h : lastW pe i with
  | none =>
    obtain ⟨d, hd⟩ := get_at du hi
    simp only [Option.getD_none, List.getD_eq_getElem?_getD, hd, Option.getD_some]
    exact h1 d (List.mem_of_getElem? hd)
  | some b => exact this pe h2 b h

theorem read_run {v : Nat} {du : List (List UInt8)} {pe : List (Int × List UInt8)} {cr op : Int} {pv : AVal} {po : List Obj} (hp : Pend pe pv po) (hl : pe.length < 1000000000) (h1 : ∀ d ∈ du, d.length = 64) (h2 : ∀ w ∈ pe, w.2.length = 64) {i : Nat} (hi : i < du.length) :
    KJ 24 [.ref (0, 0) 0, .dat (.int .i64 i)] (dsk v du cr op pv po) = some (.tup [.dat (Bs (cont du pe i)), .dat (.int .i64 0)], dsk v du cr op pv po) := by
  refine callT_ev (fn := fn24) rfl rfl ?_
  have hv := valid_run (v := v) (du := du) (cr := cr) (op := op) hp
  have hc := content_run (v := v) (du := du) (cr := cr) (op := op) hp hl hi
  have hlen := cont_len h1 h2 hi
  have hge : ¬ du.length ≤ i := by omega
  rcases hp with ⟨rfl, rfl, rfl⟩ | ⟨v2, rfl, rfl⟩
  · simp [dsk, dskB] at hv hc
    simp [runFun_eq, dsk, dskB, hv, hc, hi, hlen, hge]
  · simp [dsk, dskB] at hv hc
    simp [runFun_eq, dsk, dskB, hv, hc, hi, hlen, hge]

theorem read_out {v : Nat} {du : List (List UInt8)} {pe : List (Int × List UInt8)} {cr op : Int} {pv : AVal} {po : List Obj} (hp : Pend pe pv po) {i : Int} (hi : i < 0 ∨ (du.length : Int) ≤ i) :
    KJ 24 [.ref (0, 0) 0, .dat (.int .i64 i)] (dsk v du cr op pv po) = some (.tup [.dat (.sl []), .dat (.int .i64 2)], dsk v du cr op pv po) := by
  refine callT_ev (fn := fn24) rfl rfl ?_
  have hv := valid_run (v := v) (du := du) (cr := cr) (op := op) hp
  rcases hp with ⟨rfl, rfl, rfl⟩ | ⟨v2, rfl, rfl⟩ <;> simp [dsk, dskB] at hv <;> by_cases h : i < 0
  all_goals first
    | (simp [runFun_eq, dsk, dskB, hv, h]; done)
    | (have h' : (du.length : Int) ≤ i := by omega
       simp [runFun_eq, dsk, dskB, hv, h, h'])

theorem write_run {v : Nat} {du : List (List UInt8)} {pe : List (Int × List UInt8)} {cr op : Int} {pv : AVal} {po : List Obj} (hp : Pend pe pv po) (hl : pe.length < 1000000000) {i : Nat} (hi : i < du.length) {b : List UInt8} (hb : b.length = 64) :
    ∃ v2, KJ 15 [.ref (0, 0) 0, .dat (.int .i64 i), .dat (.sl (b.map B))] (dsk v du cr op pv po) = some (.dat (.int .i64 0), dsk v du cr op (.rsl (0, 2) v2 2 0 (pe.length + 1)) [.arr 2 v2 false ((pe ++ [((i : Int), b)]).map pnd)]) := by
  have hv := valid_run (v := v) (du := du) (cr := cr) (op := op) hp
  have hge : ¬ du.length ≤ i := by omega
  rcases hp with ⟨rfl, rfl, rfl⟩ | ⟨v2, rfl, rfl⟩
  · refine ⟨0, callT_ev (fn := fn15) rfl rfl ?_⟩
    simp [dsk, dskB] at hv
    simp [runFun_eq, dsk, dskB, hv, hi, hge, hb]
  · refine ⟨v2 + 1, callT_ev (fn := fn15) rfl rfl ?_⟩
    have hr : (pe.length + 1) * 33 ≤ 1099511627776 := by omega
    simp [dsk, dskB] at hv
    simp [runFun_eq, dsk, dskB, hv, hi, hge, hb, hr]

/-- the pending writes, made -/
def syncS : List (Int × List UInt8) → List (List UInt8) → List (List UInt8)
  | [], du => du
  | w :: r, du => syncS r (du.set w.1.toNat w.2)

theorem syncS_len : ∀ (pe : List (Int × List UInt8)) (du : List (List UInt8)), (syncS pe du).length = du.length
  | [], du => rfl
  | w :: r, du => by rw [syncS, syncS_len r]; simp

def syncPost (v v2 n : Nat) (du : List (List UInt8)) (cr op : Int) (pe : List (Int × List UInt8)) (q : AEx × St) : Prop := q.1 = .exit 0 ∧
  hd [0] [] q.2 = some ⟨[(0, .ref (0,0) 0)], [((0,0), dskB (.rsl (0, 1) v 1 0 n) (.rsl (0, 2) v2 2 0 pe.length) cr op), ((0,1), .arr 1 v false (du.map Bs)), ((0,2), .arr 2 v2 false (pe.map pnd))]⟩

theorem sync_loop (v v2 n : Nat) (cr op : Int) : ∀ (rest pre : List (Int × List UInt8)) (s : St) (du : List (List UInt8)), (∀ w ∈ rest, 0 ≤ w.1 ∧ w.1 < n) → pre.length + rest.length < 1000000000 → du.length = n →
    hd [0, 11, 12, 13] [0, 11] s = some ⟨[(0, .ref (0,0) 0), (11, .rsl (0, 2) v2 2 0 (pre ++ rest).length), (12, .dat (.int .i64 (pre ++ rest).length)), (13, .dat (.int .i64 pre.length))], [((0,0), dskB (.rsl (0, 1) v 1 0 n) (.rsl (0, 2) v2 2 0 (pre ++ rest).length) cr op), ((0,1), .arr 1 v false (du.map Bs)), ((0,2), .arr 2 v2 false ((pre ++ rest).map pnd))]⟩ →
    Ev (loopLim (exec KJ l16_0) s) (syncPost v v2 n (syncS rest du) cr op (pre ++ rest)) := by
  intro rest
  induction rest with
  | nil =>
    intro pre s du h hi hl hs
    apply ev_loop
    simp [hs, syncS, syncPost]
  | cons w rest ih =>
    intro pre s du h hi hl hs
    apply ev_loop
    rw [List.length_cons] at hi
    obtain ⟨h1, h2⟩ := h w (by simp)
    have hx : Ix pre.length := by unfold Ix; omega
    obtain ⟨d, hd, hd'⟩ := get_at' du (i := w.1.toNat) (by omega)
    have e1 : pre ++ w :: rest = (pre ++ [w]) ++ rest := by simp
    rw [show syncS (w :: rest) du = syncS rest (du.set w.1.toNat w.2) from rfl]
    generalize hQ : syncPost v v2 n (syncS rest (du.set w.1.toNat w.2)) cr op (pre ++ w :: rest) = Q
    simp [hs, dskB, hx, h1, h2, hd, hd', hl]
    rw [← hQ, e1]
    refine Ev.mono (ih (pre ++ [w]) _ (du.set w.1.toNat w.2) (fun w h' => h w (by simp [h'])) (by simp; omega) (by simp [hl]) (by simp [dskB])) (fun _ h => h)

theorem sync_run (v v2 : Nat) (du : List (List UInt8)) (cr op : Int) (pe : List (Int × List UInt8)) (h : ∀ w ∈ pe, 0 ≤ w.1 ∧ w.1 < du.length) (hl : pe.length < 1000000000) :
    KJ 16 [.ref (0, 0) 0] (dsk v du cr op (.rsl (0, 2) v2 2 0 pe.length) [.arr 2 v2 false (pe.map pnd)]) = some (.dat (.int .i64 0), dsk v (syncS pe du) cr op .nils [.arr 2 v2 false (pe.map pnd)]) := by
  refine callT_ev (fn := fn16) rfl rfl ?_
  have hv := valid_run (v := v) (du := du) (cr := cr) (op := op) (.inr ⟨v2, rfl, rfl⟩ : Pend pe _ _)
  simp [dsk, dskB] at hv
  simp [runFun_eq, dsk, dskB, hv]
  simp only [ev_bnd_iff]
  refine Ev.mono (sync_loop v v2 du.length cr op pe [] _ du h (by simpa using hl) rfl (by simp [dskB])) ?_
  rintro ⟨_, s⟩ ⟨rfl, hs⟩
  simp at hs
  simp [hs, dskB, syncS_len]

theorem sync_none (v : Nat) (du : List (List UInt8)) (cr op : Int) : KJ 16 [.ref (0, 0) 0] (dsk v du cr op .nils []) = some (.dat (.int .i64 0), dsk v du cr op .nils []) := by
  refine callT_ev (fn := fn16) rfl rfl ?_
  have hv := valid_run (v := v) (du := du) (cr := cr) (op := op) (.inl ⟨rfl, rfl, rfl⟩)
  simp [dsk, dskB] at hv
  simp [runFun_eq, dsk, dskB, hv]
  simp only [ev_bnd_iff]
  apply ev_loop
  simp

end Go.Am
