/- Walks: a record of a disk, compared. -/
import Derived.Test.YtpmlioigoiipaaaJW11
set_option linter.unusedVariables false
set_option linter.unusedSimpArgs false
set_option maxRecDepth 10000
namespace Go.Am
open Go.Proofs

def cmpPost (v : Nat) (du : List (List UInt8)) (cr op : Int) (pv : AVal) (po : List Obj) (k : Nat) (p : List UInt8) (t : Bool) (q : AEx × St) : Prop :=
  (q.1 = .ret ∧ t = false ∧ ∃ env, hd [6, 7, 8] [] q.2 = some ⟨env, dst v du cr op pv po⟩ ∧ env = [(6, .nils), (7, .dat (.int .i64 0)), (8, .dat (.bool false))]) ∨
  (q.1 = .exit 2 ∧ t = true ∧ hd [11, 14] [] q.2 = some ⟨[(11, .dat (.int .i64 k)), (14, .dat (Bs p))], dst v du cr op pv po⟩)

theorem cmp_loop {v : Nat} {du : List (List UInt8)} {pe : List (Int × List UInt8)} {cr op : Int} {pv : AVal} {po : List Obj} (hp : Pend pe pv po) (hl : pe.length < 1000000000) (hdl : du.length < 1000000)
    (at' k : Nat) (p : List UInt8) (hk : at' + k ≤ du.length) : ∀ (rest pre : List (List UInt8)) (s : St), pre.length + rest.length = k → pre = ((allC du pe).drop at').take pre.length →
    hd [0, 1, 11, 14, 88, 89, 90] [0, 14, 88] s = some ⟨[(0, .ref (0, 0) 0), (1, .dat (.int .i64 at')), (11, .dat (.int .i64 k)), (14, .dat (Bs p)), (88, .dat (.sl ((pre ++ rest).map Bs))), (89, .dat (.int .i64 k)), (90, .dat (.int .i64 pre.length))], dst v du cr op pv po⟩ →
    Ev (loopLim (exec KJ l37_1) s) (cmpPost v du cr op pv po k p (pre ++ rest == ((allC du pe).drop at').take k)) := by
  intro rest
  induction rest with
  | nil =>
    intro pre s hk2 hpre hs
    apply ev_loop
    have hk3 : pre.length = k := by simpa using hk2
    have e : (pre ++ [] == ((allC du pe).drop at').take k) = true := by rw [← hk3, ← hpre]; simp
    rw [e]
    rcases hp with ⟨rfl, rfl, rfl⟩ | ⟨v2, rfl, rfl⟩ <;> simp [hs, cmpPost, dst, dskB, hk3]
  | cons b rest ih =>
    intro pre s hk2 hpre hs
    apply ev_loop
    rw [List.length_cons] at hk2
    have hlt : pre.length < k := by omega
    have hx : Ix pre.length := by unfold Ix; omega
    have hc := content_run (v := v) (du := du) (cr := cr) (op := op) hp hl (i := at' + pre.length) (by omega)
    have ha1 : (at' : Int) + pre.length < 1000000000000000 := by omega
    have ha2 : -1000000000000000 < (at' : Int) + pre.length := by omega
    have hg : (((allC du pe).drop at').take k)[pre.length]? = some (cont du pe (at' + pre.length)) := by
      rw [List.getElem?_take, if_pos hlt, List.getElem?_drop, allC_get du pe (by omega)]
    have he := equal_run b (cont du pe (at' + pre.length))
    by_cases hb : b = cont du pe (at' + pre.length)
    · have hnext : ((allC du pe).drop at').take (pre.length + 1) = pre ++ [b] := by
        rw [List.take_add_one, ← hpre, List.getElem?_drop, allC_get du pe (by omega), hb]; rfl
      have ih2 := ih (pre ++ [b])
      have e1 : pre ++ b :: rest = (pre ++ [b]) ++ rest := by simp
      rw [e1]
      generalize hQ : cmpPost v du cr op pv po k p (pre ++ [b] ++ rest == ((allC du pe).drop at').take k) = Q at ih2 ⊢
      rw [← hb] at hc he
      rcases hp with ⟨rfl, rfl, rfl⟩ | ⟨v2, rfl, rfl⟩
      · simp [dsk, dskB] at hc
        simp [hs, dst, dskB, hlt, hx, ha1, ha2, hc, he]
        refine Ev.mono (ih2 _ (by simp; omega) (by simp [hnext]) ?_) (fun _ h => h)
        simp [dst, dskB]
      · simp [dsk, dskB] at hc
        simp [hs, dst, dskB, hlt, hx, ha1, ha2, hc, he]
        refine Ev.mono (ih2 _ (by simp; omega) (by simp [hnext]) ?_) (fun _ h => h)
        simp [dst, dskB]
    · have e : (pre ++ b :: rest == ((allC du pe).drop at').take k) = false := by
        apply Bool.eq_false_iff.2
        intro h
        have h := LawfulBEq.eq_of_beq h
        rw [← h, get_mid] at hg
        exact hb (Option.some.inj hg)
      have hb' : (b == cont du pe (at' + pre.length)) = false := by simp [hb]
      rw [e]
      rw [hb'] at he
      generalize hX : cont du pe (at' + pre.length) = X at *
      rcases hp with ⟨rfl, rfl, rfl⟩ | ⟨v2, rfl, rfl⟩
      · simp [dsk, dskB] at hc
        simp [hs, dst, dskB, hlt, hx, ha1, ha2, hc, he, cmpPost]
      · simp [dsk, dskB] at hc
        simp [hs, dst, dskB, hlt, hx, ha1, ha2, hc, he, cmpPost]

def recV : Option (List UInt8 × Nat) → AVal
  | none => .tup [.dat (.sl []), .dat (.int .i64 0), .dat (.bool false)]
  | some (p, k) => .tup [.dat (Bs p), .dat (.int .i64 k), .dat (.bool true)]

theorem or_i64 {a b : Nat} (ha : a < 256) (hb : b < 256) : intE .or .i64 (a : Int) (256 * (b : Int)) = some (.dat (.int .i64 ((a : Int) + 256 * (b : Int)))) := by
  have e1 : BitVec.ofInt 64 (a : Int) = BitVec.ofNat 64 a := BitVec.ofInt_natCast ..
  have e2 : BitVec.ofInt 64 (256 * (b : Int)) = BitVec.ofNat 64 (2 ^ 8 * b) := by
    rw [show (256 * (b : Int)) = ((2 ^ 8 * b : Nat) : Int) from by omega]; exact BitVec.ofInt_natCast ..
  have e3 : (BitVec.ofNat 64 a ||| BitVec.ofNat 64 (2 ^ 8 * b)).toNat = a + 256 * b := by
    rw [BitVec.toNat_or, BitVec.toNat_ofNat, BitVec.toNat_ofNat, Nat.mod_eq_of_lt (by omega), Nat.mod_eq_of_lt (by omega), Nat.or_comm, ← Nat.two_pow_add_eq_or_of_lt (by omega)]
    omega
  simp only [intE, bits_i64, e1, e2, e3]
  have e4 : (((BitVec.ofNat 64 a ||| BitVec.ofNat 64 (2 ^ 8 * b)).toNat : Nat) : Int) = (a : Int) + 256 * (b : Int) := by rw [e3]; omega
  exact congrArg (fun x => some (AVal.dat (Dat.int IntKind.i64 x))) ((congrArg (IntKind.wrap .i64) e4).trans (wrap_i64 (by omega) (by omega)))

theorem pay_len : ∀ (l : List (List UInt8)), (∀ d ∈ l, d.length = 64) → (pay l).length = 52 * l.length
  | [], _ => rfl
  | d :: l, h => by
    have := pay_len l (fun d hd => h d (by simp [hd]))
    have hd := h d (by simp)
    simp [pay] at this ⊢
    rw [this, hd]
    omega

theorem fopB_len (l : List UInt8) : (fopB l).1.length ≤ l.length := by
  unfold fopB
  split
  · simp
  · split
    · simp
    · split
      · simp; omega
      · simp

theorem imageB_len (p : List UInt8) (n e : Nat) : (imageB p n e).length = cntB (sealB p) := by simp [imageB]

theorem num4_lt (l : List UInt8) : num4 l < 4294967296 := by
  have h0 := byte_lt (l.getD 0 0)
  have h1 := byte_lt (l.getD 1 0)
  have h2 := byte_lt (l.getD 2 0)
  have h3 := byte_lt (l.getD 3 0)
  unfold num4
  omega

theorem record_run {v : Nat} {du : List (List UInt8)} {pe : List (Int × List UInt8)} {cr op : Int} {pv : AVal} {po : List Obj} (hp : Pend pe pv po) (hl : pe.length < 1000000000) (h64 : ∀ d ∈ du, d.length = 64) (h64' : ∀ w ∈ pe, w.2.length = 64) (hdl : du.length ≤ 4096)
    (at' n : Nat) (ha : at' < 1000000) (hn : n < 4294967296) :
    KJ 37 [.ref (0, 0) 0, .dat (.int .i64 at'), .dat (.int .u32 n)] (dsk v du cr op pv po) = some (recV (recB (allC du pe) at' n), dsk v du cr op pv po) := by
  refine callT_ev (fn := fn37) rfl rfl ?_
  by_cases hat : du.length ≤ at'
  · have hrec : recB (allC du pe) at' n = none := by simp [recB, allC_len, hat]
    rw [hrec]
    rcases hp with ⟨rfl, rfl, rfl⟩ | ⟨v2, rfl, rfl⟩ <;> simp [runFun_eq, dsk, dskB, hat, recV]
  · have hc := content_run (v := v) (du := du) (cr := cr) (op := op) hp hl (i := at') (by omega)
    have hlen := cont_len h64 h64' (i := at') (by omega)
    have hgd : (allC du pe).getD at' [] = cont du pe at' := by rw [List.getD_eq_getElem?_getD, allC_get du pe (by omega)]; rfl
    rw [recB, allC_len, if_neg hat, hgd]
    have hnum := number_run (cont du pe at') (by omega)
    have hnl := num4_lt (cont du pe at')
    generalize hF : cont du pe at' = F at *
    obtain ⟨b10, e10, e10'⟩ := get_at' F (i := 10) (by omega)
    obtain ⟨b11, e11, e11'⟩ := get_at' F (i := 11) (by omega)
    have hk : recB.num2 F = b10.toNat + 256 * b11.toNat := by simp [recB.num2, List.getD_eq_getElem?_getD, e10, e11]
    have l10 := byte_lt b10
    have l11 := byte_lt b11
    have ho := or_i64 l10 l11
    have hs1 : 256 * (b11.toNat : Int) < 1000000000000000 := by omega
    have hs2 : -1000000000000000 < 256 * (b11.toNat : Int) := by omega
    have hs3 : (b11.toNat : Int) * 256 = 256 * (b11.toNat : Int) := by omega
    have hs4 : (b10.toNat : Int) < 1000000000000000 := by omega
    have hs5 : (b11.toNat : Int) < 1000000000000000 := by omega
    have hs6 : -1000000000000000 < (b10.toNat : Int) := by omega
    have hs7 : -1000000000000000 < (b11.toNat : Int) := by omega
    have hK : ((recB.num2 F : Nat) : Int) = (b10.toNat : Int) + 256 * (b11.toNat : Int) := by omega
    rw [← hK] at ho
    have hkl : recB.num2 F < 65536 := by omega
    generalize recB.num2 F = k at *
    generalize num4 F = e at *
    have hz1 : (at' : Int) + k < 1000000000000000 := by omega
    have hz2 : -1000000000000000 < (at' : Int) + k := by omega
    have core : ∀ env : Env, True := fun _ => trivial
    by_cases hcond : e = 0 ∨ k = 0 ∨ du.length < at' + k
    · rw [if_pos hcond]
      generalize hR : recV none = R
      by_cases he0 : e = 0
      · have he0' : (e : Int) = 0 := by omega
        rcases hp with ⟨rfl, rfl, rfl⟩ | ⟨v2, rfl, rfl⟩ <;> simp [dsk, dskB] at hc
        all_goals
          simp [runFun_eq, dsk, dskB, hat, hc, hnum, e10, e11, ho, hs1, hs2, hs3, hs4, hs5, hs6, hs7, he0]
          exact hR
      · by_cases hk0 : k = 0
        · rcases hp with ⟨rfl, rfl, rfl⟩ | ⟨v2, rfl, rfl⟩ <;> simp [dsk, dskB] at hc
          all_goals
            simp [runFun_eq, dsk, dskB, hat, hc, hnum, e10, e11, ho, hs1, hs2, hs3, hs4, hs5, hs6, hs7, he0, hk0]
            exact hR
        · have hbig : (du.length : Int) < (at' : Int) + k := by omega
          rcases hp with ⟨rfl, rfl, rfl⟩ | ⟨v2, rfl, rfl⟩ <;> simp [dsk, dskB] at hc
          all_goals
            simp [runFun_eq, dsk, dskB, hat, hc, hnum, e10, e11, ho, hs1, hs2, hs3, hs4, hs5, hs6, hs7, he0, hk0, hz1, hz2, hbig]
            exact hR
    · rw [if_neg hcond]
      have he0 : ¬ e = 0 := fun h => hcond (.inl h)
      have hk0 : ¬ k = 0 := fun h => hcond (.inr (.inl h))
      have hfit : at' + k ≤ du.length := by
        by_cases h : du.length < at' + k
        · exact absurd (.inr (.inr h)) hcond
        · omega
      have hbig : ¬ (du.length : Int) < (at' : Int) + k := by omega
      have hpl : ((allC du pe).drop at' |>.take k).length = k := by rw [List.length_take, List.length_drop, allC_len]; omega
      have hp64 : ∀ d ∈ (allC du pe).drop at' |>.take k, d.length = 64 := by
        intro d hd
        have hd := List.mem_of_mem_drop (List.mem_of_mem_take hd)
        simp only [allC, List.mem_map, List.mem_range] at hd
        obtain ⟨i, hi, rfl⟩ := hd
        exact cont_len h64 h64' hi
      have hpay := pay_len _ hp64
      rw [hpl] at hpay
      have hfo := fopen_run (pay ((allC du pe).drop at' |>.take k)) (by omega)
      have hfl := fopB_len (pay ((allC du pe).drop at' |>.take k))
      have hloop := fun s h => dat_loop (v := v) (cr := cr) (op := op) hp hl h64 h64' (by omega) at' n e k hfit k 0 0 s [] (by omega) (by simp [pay]) (by simp) h
      have hcl := fun W s hW h => cmp_loop (v := v) (cr := cr) (op := op) hp hl (by omega) at' k (fopB (pay ((allC du pe).drop at' |>.take k))).1 hfit W [] s hW (by simp) h
      generalize hW : ((allC du pe).drop at' |>.take k) = W at *
      generalize hD : pay W = D at *
      have himg := image_run (fopB D).1 n e (by omega) hn hnl
      have him := imageB_len (fopB D).1 n e
      rcases hp with ⟨rfl, rfl, rfl⟩ | ⟨v2, rfl, rfl⟩ <;> simp [dsk, dskB] at hc
      all_goals
        generalize hR : recV _ = R
        simp [runFun_eq, dsk, dskB, hat, hc, hnum, e10, e11, ho, hs1, hs2, hs3, hs4, hs5, hs6, hs7, he0, hk0, hz1, hz2, hbig]
        simp only [ev_bnd_iff]
        refine Ev.mono (hloop _ (by simp [dst, dskB])) ?_
        rintro ⟨_, s⟩ ⟨rfl, v', hs⟩
        dsimp only at hs
        by_cases herr : (fopB D).2.2 = 0
        · by_cases hlen2 : cntB (sealB (fopB D).1) = k
          · have him' : (imageB (fopB D).1 n e).length = k := by rw [him, hlen2]
            simp [hs, dst, dskB, hfo, herr, himg, him']
            simp only [ev_bnd_iff]
            refine Ev.mono (hcl (imageB (fopB D).1 n e) _ (by simp [him']) (by simp [dst, dskB])) ?_
            rintro ⟨x, s⟩ (⟨rfl, ht, env, hs, rfl⟩ | ⟨rfl, ht, hs⟩)
            · dsimp only at hs
              have hne : ¬ imageB (fopB D).1 n e = W := by simpa using ht
              rw [if_neg (by simp [herr]), if_neg hne] at hR
              rw [← hR]
              simp only [blkK, Ev_some, seqK, endK_hd hs]
              simp [dst, dskB, recV]
            · dsimp only at hs
              have heq : imageB (fopB D).1 n e = W := by simpa using ht
              rw [if_neg (by simp [herr]), if_pos heq] at hR
              rw [← hR]
              simp [hs, dst, dskB, recV]
          · have hne : ¬ imageB (fopB D).1 n e = W := by
              intro h
              rw [h] at him
              omega
            rw [if_neg (by simp [herr]), if_neg hne] at hR
            rw [← hR]
            simp [hs, dst, dskB, hfo, herr, himg, him, hlen2, recV]
        · rw [if_pos herr] at hR
          rw [← hR]
          simp [hs, dst, dskB, hfo, herr, recV]
end Go.Am
