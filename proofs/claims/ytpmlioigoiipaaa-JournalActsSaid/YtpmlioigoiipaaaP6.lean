/- Parts of the proofs of the journal's statements, joined: JW11 JW12 JR6 JW13 JW14 JW15 JW16 JD1 JD2 JR7 JR8 JD3 JD4 JD5 JPlain JPlain2 JD6 JR9 JR10 JR11 JR12 JR13. -/
import Derived.Test.YtpmlioigoiipaaaP5

/- Walks: a record of a disk. -/
set_option linter.unusedVariables false
set_option linter.unusedSimpArgs false
set_option maxRecDepth 10000
namespace Go.Am
open Go.Proofs

def allC (du : List (List UInt8)) (pe : List (Int × List UInt8)) : List (List UInt8) := (List.range du.length).map (cont du pe)

theorem allC_len (du : List (List UInt8)) (pe : List (Int × List UInt8)) : (allC du pe).length = du.length := by simp [allC]
theorem allC_get (du : List (List UInt8)) (pe : List (Int × List UInt8)) {i : Nat} (h : i < du.length) : (allC du pe)[i]? = some (cont du pe i) := by simp [allC, h]
theorem allC_nil (du : List (List UInt8)) : allC du [] = du := by
  apply List.ext_getElem?
  intro i
  by_cases h : i < du.length
  · rw [allC_get du [] h]
    obtain ⟨d, hd⟩ := get_at du h
    simp [cont, lastW, hd]
  · rw [List.getElem?_eq_none (by rw [allC_len]; omega), List.getElem?_eq_none (by omega)]

def pay (l : List (List UInt8)) : List UInt8 := l.flatMap (·.drop 12)

def recB (all : List (List UInt8)) (at' n : Nat) : Option (List UInt8 × Nat) :=
  if all.length ≤ at' then none else
  if num4 (all.getD at' []) = 0 ∨ num2 (all.getD at' []) = 0 ∨ all.length < at' + num2 (all.getD at' []) then none else
  if (fopB (pay ((all.drop at').take (num2 (all.getD at' []))))).2.2 ≠ 0 then none else
  if imageB (fopB (pay ((all.drop at').take (num2 (all.getD at' []))))).1 n (num4 (all.getD at' [])) = (all.drop at').take (num2 (all.getD at' [])) then
    some ((fopB (pay ((all.drop at').take (num2 (all.getD at' []))))).1, num2 (all.getD at' []))
  else none
  where num2 (l : List UInt8) : Nat := (l.getD 10 0).toNat + 256 * (l.getD 11 0).toNat

/-- a disk's objects in a store -/
def dst (v : Nat) (du : List (List UInt8)) (cr op : Int) (pv : AVal) (po : List Obj) : Store := ((0, 0), dskB (.rsl (0, 1) v 1 0 du.length) pv cr op) :: ((0, 1), .arr 1 v false (du.map Bs)) :: (match po with | [] => [] | o :: _ => [((0, 2), o)])

def datPost (v : Nat) (du : List (List UInt8)) (cr op : Int) (pv : AVal) (po : List Obj) (at' n e k : Nat) (data : List UInt8) (q : AEx × St) : Prop := q.1 = .exit 0 ∧ ∃ v',
  hd [0, 1, 2, 10, 11, 12] [] q.2 = some ⟨[(0, .ref (0, 0) 0), (1, .dat (.int .i64 at')), (2, .dat (.int .u32 n)), (10, .dat (.int .u32 e)), (11, .dat (.int .i64 k)), (12, .rsl (13, 0) v' 1 0 data.length)], dst v du cr op pv po ++ [((13, 0), .arr 1 v' false (data.map B))]⟩

theorem dat_loop {v : Nat} {du : List (List UInt8)} {pe : List (Int × List UInt8)} {cr op : Int} {pv : AVal} {po : List Obj} (hp : Pend pe pv po) (hl : pe.length < 1000000000) (h64 : ∀ d ∈ du, d.length = 64) (h64' : ∀ w ∈ pe, w.2.length = 64) (hdl : du.length < 1000000)
    (at' n e k : Nat) (hk : at' + k ≤ du.length) : ∀ (m j v' : Nat) (s : St) (data : List UInt8), j + m = k → data = pay (((allC du pe).drop at').take j) → data.length ≤ 52 * j →
    hd [0, 1, 2, 10, 11, 12, 59, 60] [0, 12] s = some ⟨[(0, .ref (0, 0) 0), (1, .dat (.int .i64 at')), (2, .dat (.int .u32 n)), (10, .dat (.int .u32 e)), (11, .dat (.int .i64 k)), (12, .rsl (13, 0) v' 1 0 data.length), (59, .dat (.int .i64 k)), (60, .dat (.int .i64 j))], dst v du cr op pv po ++ [((13, 0), .arr 1 v' false (data.map B))]⟩ →
    Ev (loopLim (exec KJ l37_0) s) (datPost v du cr op pv po at' n e k (pay (((allC du pe).drop at').take k))) := by
  intro m
  induction m with
  | zero =>
    intro j v' s data hj hd hle hs
    apply ev_loop
    have : j = k := by omega
    subst this
    rw [← hd]
    rcases hp with ⟨rfl, rfl, rfl⟩ | ⟨v2, rfl, rfl⟩ <;> simp [hs, datPost, dst, dskB]
  | succ m ih =>
    intro j v' s data hj hd hle hs
    apply ev_loop
    have hlt : j < k := by omega
    have hx : Ix j := by unfold Ix; omega
    have hr : (data.length + 52) * 2 ≤ 1099511627776 := by omega
    have hc := content_run (v := v) (du := du) (cr := cr) (op := op) hp hl (i := at' + j) (by omega)
    have hlen := cont_len h64 h64' (i := at' + j) (by omega)
    have ha1 : (at' : Int) + j < 1000000000000000 := by omega
    have ha2 : -1000000000000000 < (at' : Int) + j := by omega
    have hnext : pay (((allC du pe).drop at').take (j + 1)) = data ++ (cont du pe (at' + j)).drop 12 := by
      rw [List.take_add_one, List.getElem?_drop, allC_get du pe (by omega), hd]
      simp [pay]
    have ih2 := ih (j + 1) (v' + 1)
    generalize hQ : datPost v du cr op pv po at' n e k (pay (((allC du pe).drop at').take k)) = Q at ih2 ⊢
    have hdc : ((cont du pe (at' + j)).drop 12).length = 52 := by simp [hlen]
    generalize hX : cont du pe (at' + j) = X at *
    rcases hp with ⟨rfl, rfl, rfl⟩ | ⟨v2, rfl, rfl⟩
    · simp [dsk, dskB] at hc
      simp [hs, dst, dskB, hlt, hx, ha1, ha2, hc, hlen, hr, -List.map_take, -List.map_drop, take_map, drop_map]
      refine Ev.mono (ih2 _ (data ++ X.drop 12) (by omega) hnext.symm (by simp [hlen]; omega) ?_) (fun _ h => h)
      simp [dst, dskB, hlen]
    · simp [dsk, dskB] at hc
      simp [hs, dst, dskB, hlt, hx, ha1, ha2, hc, hlen, hr, -List.map_take, -List.map_drop, take_map, drop_map]
      refine Ev.mono (ih2 _ (data ++ X.drop 12) (by omega) hnext.symm (by simp [hlen]; omega) ?_) (fun _ h => h)
      simp [dst, dskB, hlen]
end Go.Am

/- Walks: a record of a disk, compared. -/
set_option linter.unusedVariables false
set_option linter.unusedSimpArgs false
set_option maxRecDepth 10000
namespace Go.Am
open Go.Proofs

def cmpPost (v : Nat) (du : List (List UInt8)) (cr op : Int) (pv : AVal) (po : List Obj) (k : Nat) (p : List UInt8) (t : Bool) (q : AEx × St) : Prop :=
  (q.1 = .ret ∧ t = false ∧ ∃ env, hd [6, 7, 8] [] q.2 = some ⟨env, dst v du cr op pv po⟩ ∧ env = [(6, .nils), (7, .dat (.int .i64 0)), (8, .dat (.bool false))]) ∨
  (q.1 = .exit 2 ∧ t = true ∧ hd [11, 14] [] q.2 = some ⟨[(11, .dat (.int .i64 k)), (14, .dat (Bs p))], dst v du cr op pv po⟩)

theorem cmp_loop {v : Nat} {du : List (List UInt8)} {pe : List (Int × List UInt8)} {cr op : Int} {pv : AVal} {po : List Obj} (hp : Pend pe pv po) (hl : pe.length < 1000000000) (hdl : du.length < 1000000)
    (at' k : Nat) (p : List UInt8) (hk : at' + k ≤ du.length) : ∀ (rest pre : List (List UInt8)) (s : St), pre.length + rest.length = k → pre = ((allC du pe).drop at').take pre.length →
    hd [0, 1, 11, 14, 88, 89, 90] [0, 14, 88] s = some ⟨[(0, .ref (0, 0) 0), (1, .dat (.int .i64 at')), (11, .dat (.int .i64 k)), (14, .dat (Bs p)), (88, .dat (.sl ((pre ++ rest).map Bs))), (89, .dat (.int .i64 k)), (90, .dat (.int .i64 pre.length))], dst v du cr op pv po⟩ →
    Ev (loopLim (exec KJ l37_1) s) (cmpPost v du cr op pv po k p (pre ++ rest == ((allC du pe).drop at').take k)) := by
  intro rest
  induction rest with
  | nil =>
    intro pre s hk2 hpre hs
    apply ev_loop
    have hk3 : pre.length = k := by simpa using hk2
    have e : (pre ++ [] == ((allC du pe).drop at').take k) = true := by rw [← hk3, ← hpre]; simp
    rw [e]
    rcases hp with ⟨rfl, rfl, rfl⟩ | ⟨v2, rfl, rfl⟩ <;> simp [hs, cmpPost, dst, dskB, hk3]
  | cons b rest ih =>
    intro pre s hk2 hpre hs
    apply ev_loop
    rw [List.length_cons] at hk2
    have hlt : pre.length < k := by omega
    have hx : Ix pre.length := by unfold Ix; omega
    have hc := content_run (v := v) (du := du) (cr := cr) (op := op) hp hl (i := at' + pre.length) (by omega)
    have ha1 : (at' : Int) + pre.length < 1000000000000000 := by omega
    have ha2 : -1000000000000000 < (at' : Int) + pre.length := by omega
    have hg : (((allC du pe).drop at').take k)[pre.length]? = some (cont du pe (at' + pre.length)) := by
      rw [List.getElem?_take, if_pos hlt, List.getElem?_drop, allC_get du pe (by omega)]
    have he := equal_run b (cont du pe (at' + pre.length))
    by_cases hb : b = cont du pe (at' + pre.length)
    · have hnext : ((allC du pe).drop at').take (pre.length + 1) = pre ++ [b] := by
        rw [List.take_add_one, ← hpre, List.getElem?_drop, allC_get du pe (by omega), hb]; rfl
      have ih2 := ih (pre ++ [b])
      have e1 : pre ++ b :: rest = (pre ++ [b]) ++ rest := by simp
      rw [e1]
      generalize hQ : cmpPost v du cr op pv po k p (pre ++ [b] ++ rest == ((allC du pe).drop at').take k) = Q at ih2 ⊢
      rw [← hb] at hc he
      rcases hp with ⟨rfl, rfl, rfl⟩ | ⟨v2, rfl, rfl⟩
      · simp [dsk, dskB] at hc
        simp [hs, dst, dskB, hlt, hx, ha1, ha2, hc, he]
        refine Ev.mono (ih2 _ (by simp; omega) (by simp [hnext]) ?_) (fun _ h => h)
        simp [dst, dskB]
      · simp [dsk, dskB] at hc
        simp [hs, dst, dskB, hlt, hx, ha1, ha2, hc, he]
        refine Ev.mono (ih2 _ (by simp; omega) (by simp [hnext]) ?_) (fun _ h => h)
        simp [dst, dskB]
    · have e : (pre ++ b :: rest == ((allC du pe).drop at').take k) = false := by
        apply Bool.eq_false_iff.2
        intro h
        have h := LawfulBEq.eq_of_beq h
        rw [← h, get_mid] at hg
        exact hb (Option.some.inj hg)
      have hb' : (b == cont du pe (at' + pre.length)) = false := by simp [hb]
      rw [e]
      rw [hb'] at he
      generalize hX : cont du pe (at' + pre.length) = X at *
      rcases hp with ⟨rfl, rfl, rfl⟩ | ⟨v2, rfl, rfl⟩
      · simp [dsk, dskB] at hc
        simp [hs, dst, dskB, hlt, hx, ha1, ha2, hc, he, cmpPost]
      · simp [dsk, dskB] at hc
        simp [hs, dst, dskB, hlt, hx, ha1, ha2, hc, he, cmpPost]

def recV : Option (List UInt8 × Nat) → AVal
  | none => .tup [.dat (.sl []), .dat (.int .i64 0), .dat (.bool false)]
  | some (p, k) => .tup [.dat (Bs p), .dat (.int .i64 k), .dat (.bool true)]

theorem or_i64 {a b : Nat} (ha : a < 256) (hb : b < 256) : intE .or .i64 (a : Int) (256 * (b : Int)) = some (.dat (.int .i64 ((a : Int) + 256 * (b : Int)))) := by
  have e1 : BitVec.ofInt 64 (a : Int) = BitVec.ofNat 64 a := BitVec.ofInt_natCast ..
  have e2 : BitVec.ofInt 64 (256 * (b : Int)) = BitVec.ofNat 64 (2 ^ 8 * b) := by
    rw [show (256 * (b : Int)) = ((2 ^ 8 * b : Nat) : Int) from by omega]; exact BitVec.ofInt_natCast ..
  have e3 : (BitVec.ofNat 64 a ||| BitVec.ofNat 64 (2 ^ 8 * b)).toNat = a + 256 * b := by
    rw [BitVec.toNat_or, BitVec.toNat_ofNat, BitVec.toNat_ofNat, Nat.mod_eq_of_lt (by omega), Nat.mod_eq_of_lt (by omega), Nat.or_comm, ← Nat.two_pow_add_eq_or_of_lt (by omega)]
    omega
  simp only [intE, bits_i64, e1, e2, e3]
  have e4 : (((BitVec.ofNat 64 a ||| BitVec.ofNat 64 (2 ^ 8 * b)).toNat : Nat) : Int) = (a : Int) + 256 * (b : Int) := by rw [e3]; omega
  exact congrArg (fun x => some (AVal.dat (Dat.int IntKind.i64 x))) ((congrArg (IntKind.wrap .i64) e4).trans (wrap_i64 (by omega) (by omega)))

theorem pay_len : ∀ (l : List (List UInt8)), (∀ d ∈ l, d.length = 64) → (pay l).length = 52 * l.length
  | [], _ => rfl
  | d :: l, h => by
    have := pay_len l (fun d hd => h d (by simp [hd]))
    have hd := h d (by simp)
    simp [pay] at this ⊢
    rw [this, hd]
    omega

theorem fopB_len (l : List UInt8) : (fopB l).1.length ≤ l.length := by
  unfold fopB
  split
  · simp
  · split
    · simp
    · split
      · simp; omega
      · simp

theorem imageB_len (p : List UInt8) (n e : Nat) : (imageB p n e).length = cntB (sealB p) := by simp [imageB]

theorem num4_lt (l : List UInt8) : num4 l < 4294967296 := by
  have h0 := byte_lt (l.getD 0 0)
  have h1 := byte_lt (l.getD 1 0)
  have h2 := byte_lt (l.getD 2 0)
  have h3 := byte_lt (l.getD 3 0)
  unfold num4
  omega

theorem record_run {v : Nat} {du : List (List UInt8)} {pe : List (Int × List UInt8)} {cr op : Int} {pv : AVal} {po : List Obj} (hp : Pend pe pv po) (hl : pe.length < 1000000000) (h64 : ∀ d ∈ du, d.length = 64) (h64' : ∀ w ∈ pe, w.2.length = 64) (hdl : du.length ≤ 4096)
    (at' n : Nat) (ha : at' < 1000000) (hn : n < 4294967296) :
    KJ 37 [.ref (0, 0) 0, .dat (.int .i64 at'), .dat (.int .u32 n)] (dsk v du cr op pv po) = some (recV (recB (allC du pe) at' n), dsk v du cr op pv po) := by
  refine callT_ev (fn := fn37) rfl rfl ?_
  by_cases hat : du.length ≤ at'
  · have hrec : recB (allC du pe) at' n = none := by simp [recB, allC_len, hat]
    rw [hrec]
    rcases hp with ⟨rfl, rfl, rfl⟩ | ⟨v2, rfl, rfl⟩ <;> simp [runFun_eq, dsk, dskB, hat, recV]
  · have hc := content_run (v := v) (du := du) (cr := cr) (op := op) hp hl (i := at') (by omega)
    have hlen := cont_len h64 h64' (i := at') (by omega)
    have hgd : (allC du pe).getD at' [] = cont du pe at' := by rw [List.getD_eq_getElem?_getD, allC_get du pe (by omega)]; rfl
    rw [recB, allC_len, if_neg hat, hgd]
    have hnum := number_run (cont du pe at') (by omega)
    have hnl := num4_lt (cont du pe at')
    generalize hF : cont du pe at' = F at *
    obtain ⟨b10, e10, e10'⟩ := get_at' F (i := 10) (by omega)
    obtain ⟨b11, e11, e11'⟩ := get_at' F (i := 11) (by omega)
    have hk : recB.num2 F = b10.toNat + 256 * b11.toNat := by simp [recB.num2, List.getD_eq_getElem?_getD, e10, e11]
    have l10 := byte_lt b10
    have l11 := byte_lt b11
    have ho := or_i64 l10 l11
    have hs1 : 256 * (b11.toNat : Int) < 1000000000000000 := by omega
    have hs2 : -1000000000000000 < 256 * (b11.toNat : Int) := by omega
    have hs3 : (b11.toNat : Int) * 256 = 256 * (b11.toNat : Int) := by omega
    have hs4 : (b10.toNat : Int) < 1000000000000000 := by omega
    have hs5 : (b11.toNat : Int) < 1000000000000000 := by omega
    have hs6 : -1000000000000000 < (b10.toNat : Int) := by omega
    have hs7 : -1000000000000000 < (b11.toNat : Int) := by omega
    have hK : ((recB.num2 F : Nat) : Int) = (b10.toNat : Int) + 256 * (b11.toNat : Int) := by omega
    rw [← hK] at ho
    have hkl : recB.num2 F < 65536 := by omega
    generalize recB.num2 F = k at *
    generalize num4 F = e at *
    have hz1 : (at' : Int) + k < 1000000000000000 := by omega
    have hz2 : -1000000000000000 < (at' : Int) + k := by omega
    have core : ∀ env : Env, True := fun _ => trivial
    by_cases hcond : e = 0 ∨ k = 0 ∨ du.length < at' + k
    · rw [if_pos hcond]
      generalize hR : recV none = R
      by_cases he0 : e = 0
      · have he0' : (e : Int) = 0 := by omega
        rcases hp with ⟨rfl, rfl, rfl⟩ | ⟨v2, rfl, rfl⟩ <;> simp [dsk, dskB] at hc
        all_goals
          simp [runFun_eq, dsk, dskB, hat, hc, hnum, e10, e11, ho, hs1, hs2, hs3, hs4, hs5, hs6, hs7, he0]
          exact hR
      · by_cases hk0 : k = 0
        · rcases hp with ⟨rfl, rfl, rfl⟩ | ⟨v2, rfl, rfl⟩ <;> simp [dsk, dskB] at hc
          all_goals
            simp [runFun_eq, dsk, dskB, hat, hc, hnum, e10, e11, ho, hs1, hs2, hs3, hs4, hs5, hs6, hs7, he0, hk0]
            exact hR
        · have hbig : (du.length : Int) < (at' : Int) + k := by omega
          rcases hp with ⟨rfl, rfl, rfl⟩ | ⟨v2, rfl, rfl⟩ <;> simp [dsk, dskB] at hc
          all_goals
            simp [runFun_eq, dsk, dskB, hat, hc, hnum, e10, e11, ho, hs1, hs2, hs3, hs4, hs5, hs6, hs7, he0, hk0, hz1, hz2, hbig]
            exact hR
    · rw [if_neg hcond]
      have he0 : ¬ e = 0 := fun h => hcond (.inl h)
      have hk0 : ¬ k = 0 := fun h => hcond (.inr (.inl h))
      have hfit : at' + k ≤ du.length := by
        by_cases h : du.length < at' + k
        · exact absurd (.inr (.inr h)) hcond
        · omega
      have hbig : ¬ (du.length : Int) < (at' : Int) + k := by omega
      have hpl : ((allC du pe).drop at' |>.take k).length = k := by rw [List.length_take, List.length_drop, allC_len]; omega
      have hp64 : ∀ d ∈ (allC du pe).drop at' |>.take k, d.length = 64 := by
        intro d hd
        have hd := List.mem_of_mem_drop (List.mem_of_mem_take hd)
        simp only [allC, List.mem_map, List.mem_range] at hd
        obtain ⟨i, hi, rfl⟩ := hd
        exact cont_len h64 h64' hi
      have hpay := pay_len _ hp64
      rw [hpl] at hpay
      have hfo := fopen_run (pay ((allC du pe).drop at' |>.take k)) (by omega)
      have hfl := fopB_len (pay ((allC du pe).drop at' |>.take k))
      have hloop := fun s h => dat_loop (v := v) (cr := cr) (op := op) hp hl h64 h64' (by omega) at' n e k hfit k 0 0 s [] (by omega) (by simp [pay]) (by simp) h
      have hcl := fun W s hW h => cmp_loop (v := v) (cr := cr) (op := op) hp hl (by omega) at' k (fopB (pay ((allC du pe).drop at' |>.take k))).1 hfit W [] s hW (by simp) h
      generalize hW : ((allC du pe).drop at' |>.take k) = W at *
      generalize hD : pay W = D at *
      have himg := image_run (fopB D).1 n e (by omega) hn hnl
      have him := imageB_len (fopB D).1 n e
      rcases hp with ⟨rfl, rfl, rfl⟩ | ⟨v2, rfl, rfl⟩ <;> simp [dsk, dskB] at hc
      all_goals
        generalize hR : recV _ = R
        simp [runFun_eq, dsk, dskB, hat, hc, hnum, e10, e11, ho, hs1, hs2, hs3, hs4, hs5, hs6, hs7, he0, hk0, hz1, hz2, hbig]
        simp only [ev_bnd_iff]
        refine Ev.mono (hloop _ (by simp [dst, dskB])) ?_
        rintro ⟨_, s⟩ ⟨rfl, v', hs⟩
        dsimp only at hs
        by_cases herr : (fopB D).2.2 = 0
        · by_cases hlen2 : cntB (sealB (fopB D).1) = k
          · have him' : (imageB (fopB D).1 n e).length = k := by rw [him, hlen2]
            simp [hs, dst, dskB, hfo, herr, himg, him']
            simp only [ev_bnd_iff]
            refine Ev.mono (hcl (imageB (fopB D).1 n e) _ (by simp [him']) (by simp [dst, dskB])) ?_
            rintro ⟨x, s⟩ (⟨rfl, ht, env, hs, rfl⟩ | ⟨rfl, ht, hs⟩)
            · dsimp only at hs
              have hne : ¬ imageB (fopB D).1 n e = W := by simpa using ht
              rw [if_neg (by simp [herr]), if_neg hne] at hR
              rw [← hR]
              simp only [blkK, Ev_some, seqK, endK_hd hs]
              simp [dst, dskB, recV]
            · dsimp only at hs
              have heq : imageB (fopB D).1 n e = W := by simpa using ht
              rw [if_neg (by simp [herr]), if_pos heq] at hR
              rw [← hR]
              simp [hs, dst, dskB, recV]
          · have hne : ¬ imageB (fopB D).1 n e = W := by
              intro h
              rw [h] at him
              omega
            rw [if_neg (by simp [herr]), if_neg hne] at hR
            rw [← hR]
            simp [hs, dst, dskB, hfo, herr, himg, him, hlen2, recV]
        · rw [if_pos herr] at hR
          rw [← hR]
          simp [hs, dst, dskB, hfo, herr, recV]
end Go.Am

/- Walks of the reference: a record. -/
set_option linter.unusedVariables false
set_option linter.unusedSimpArgs false
set_option maxRecDepth 10000
namespace Go.Am
open Go.Proofs

def rdatPost (all : List (List UInt8)) (at' n e k : Nat) (data : List UInt8) (q : AEx × St) : Prop := q.1 = .exit 0 ∧ ∃ v',
  hd [0, 1, 2, 8, 9, 10] [] q.2 = some ⟨[(0, .dat (.sl (all.map Bs))), (1, .dat (.int .i64 at')), (2, .dat (.int .i64 n)), (8, .dat (.int .i64 e)), (9, .dat (.int .i64 k)), (10, .rsl (11, 0) v' 1 0 data.length)], [((11, 0), .arr 1 v' false (data.map B))]⟩

theorem rdat_loop {all : List (List UInt8)} (h64 : ∀ d ∈ all, d.length = 64) (hdl : all.length < 1000000)
    (at' n e k : Nat) (hk : at' + k ≤ all.length) : ∀ (m j v' : Nat) (s : St) (data : List UInt8), j + m = k → data = pay ((all.drop at').take j) → data.length ≤ 52 * j →
    hd [0, 1, 2, 8, 9, 10, 11] [0, 10] s = some ⟨[(0, .dat (.sl (all.map Bs))), (1, .dat (.int .i64 at')), (2, .dat (.int .i64 n)), (8, .dat (.int .i64 e)), (9, .dat (.int .i64 k)), (10, .rsl (11, 0) v' 1 0 data.length), (11, .dat (.int .i64 j))], [((11, 0), .arr 1 v' false (data.map B))]⟩ →
    Ev (loopLim (exec KJ l42_0) s) (rdatPost all at' n e k (pay ((all.drop at').take k))) := by
  intro m
  induction m with
  | zero =>
    intro j v' s data hj hd hle hs
    apply ev_loop
    have : j = k := by omega
    subst this
    rw [← hd]
    simp [hs, rdatPost]
  | succ m ih =>
    intro j v' s data hj hd hle hs
    apply ev_loop
    have hlt : j < k := by omega
    have hx : Ix j := by unfold Ix; omega
    have hr : (data.length + 52) * 2 ≤ 1099511627776 := by omega
    have ha1 : (at' : Int) + j < 1000000000000000 := by omega
    have ha2 : -1000000000000000 < (at' : Int) + j := by omega
    have ha3 : (0 : Int) ≤ (at' : Int) + j := by omega
    have ha4 : ((at' : Int) + j).toNat = at' + j := by omega
    obtain ⟨X, hX, hX'⟩ := get_at' all (i := at' + j) (by omega)
    have hlen : X.length = 64 := h64 X (List.mem_of_getElem? hX)
    have hnext : pay ((all.drop at').take (j + 1)) = data ++ X.drop 12 := by
      rw [List.take_add_one, List.getElem?_drop, hX, hd]
      simp [pay]
    have ih2 := ih (j + 1) (v' + 1)
    generalize hQ : rdatPost all at' n e k (pay ((all.drop at').take k)) = Q at ih2 ⊢
    have hdc : (X.drop 12).length = 52 := by simp [hlen]
    simp [hs, hlt, hx, ha1, ha2, ha3, ha4, hX, hX', hlen, hr, -List.map_take, -List.map_drop, take_map, drop_map]
    refine Ev.mono (ih2 _ (data ++ X.drop 12) (by omega) hnext.symm (by simp [hlen]; omega) ?_) (fun _ h => h)
    simp [hlen]

def rcmpPost (k : Nat) (p : List UInt8) (t : Bool) (q : AEx × St) : Prop :=
  (q.1 = .ret ∧ t = false ∧ hd [6, 7] [] q.2 = some ⟨[(6, .nils), (7, .dat (.int .i64 0))], []⟩) ∨
  (q.1 = .exit 2 ∧ t = true ∧ hd [9, 12] [] q.2 = some ⟨[(9, .dat (.int .i64 k)), (12, .dat (Bs p))], []⟩)

theorem rcmp_loop {all : List (List UInt8)} (hdl : all.length < 1000000)
    (at' k : Nat) (p : List UInt8) (hk : at' + k ≤ all.length) : ∀ (rest pre : List (List UInt8)) (s : St), pre.length + rest.length = k → pre = (all.drop at').take pre.length →
    hd [0, 1, 9, 12, 15, 16] [0, 12, 15] s = some ⟨[(0, .dat (.sl (all.map Bs))), (1, .dat (.int .i64 at')), (9, .dat (.int .i64 k)), (12, .dat (Bs p)), (15, .dat (.sl ((pre ++ rest).map Bs))), (16, .dat (.int .i64 pre.length))], []⟩ →
    Ev (loopLim (exec KJ l42_1) s) (rcmpPost k p (pre ++ rest == (all.drop at').take k)) := by
  intro rest
  induction rest with
  | nil =>
    intro pre s hk2 hpre hs
    apply ev_loop
    have hk3 : pre.length = k := by simpa using hk2
    have e : (pre ++ [] == (all.drop at').take k) = true := by rw [← hk3, ← hpre]; simp
    rw [e]
    simp [hs, rcmpPost, hk3]
  | cons b rest ih =>
    intro pre s hk2 hpre hs
    apply ev_loop
    rw [List.length_cons] at hk2
    have hlt : pre.length < k := by omega
    have hx : Ix pre.length := by unfold Ix; omega
    have ha1 : (at' : Int) + pre.length < 1000000000000000 := by omega
    have ha2 : -1000000000000000 < (at' : Int) + pre.length := by omega
    have ha3 : (0 : Int) ≤ (at' : Int) + pre.length := by omega
    have ha4 : ((at' : Int) + pre.length).toNat = at' + pre.length := by omega
    obtain ⟨X, hX, hX'⟩ := get_at' all (i := at' + pre.length) (by omega)
    have hg : ((all.drop at').take k)[pre.length]? = some X := by
      rw [List.getElem?_take, if_pos hlt, List.getElem?_drop, hX]
    have he := same_run b X
    by_cases hb : b = X
    · have hnext : (all.drop at').take (pre.length + 1) = pre ++ [b] := by
        rw [List.take_add_one, ← hpre, List.getElem?_drop, hX, hb]; rfl
      have ih2 := ih (pre ++ [b])
      have e1 : pre ++ b :: rest = (pre ++ [b]) ++ rest := by simp
      rw [e1]
      rw [hb, show (X == X) = true from by simp] at he
      generalize hQ : rcmpPost k p (pre ++ [b] ++ rest == (all.drop at').take k) = Q at ih2 ⊢
      subst hb
      simp [hs, hlt, hx, ha1, ha2, ha3, ha4, hX, hX', he]
      refine Ev.mono (ih2 _ (by simp; omega) (by simp [hnext]) ?_) (fun _ h => h)
      simp
    · have e : (pre ++ b :: rest == (all.drop at').take k) = false := by
        apply Bool.eq_false_iff.2
        intro h
        have h := LawfulBEq.eq_of_beq h
        rw [← h, get_mid] at hg
        exact hb (Option.some.inj hg)
      have hb' : (b == X) = false := by simp [hb]
      rw [e]
      rw [hb'] at he
      simp [hs, hlt, hx, ha1, ha2, ha3, ha4, hX, hX', he, rcmpPost]

def rrecV : Option (List UInt8 × Nat) → AVal
  | none => .tup [.dat (.sl []), .dat (.int .i64 0)]
  | some (p, k) => .tup [.dat (Bs p), .dat (.int .i64 k)]

theorem num4_take (l : List UInt8) : num4 (l.take 4) = num4 l := by
  simp [num4, List.getD_eq_getElem?_getD, List.getElem?_take]

theorem rrecord_run {all : List (List UInt8)} (h64 : ∀ d ∈ all, d.length = 64) (hdl : all.length ≤ 4096)
    (at' n : Nat) (ha : at' < 1000000) (hn : n < 4294967296) :
    KJ 42 [.dat (.sl (all.map Bs)), .dat (.int .i64 at'), .dat (.int .i64 n)] [] = some (rrecV (recB all at' n), []) := by
  refine callT_ev (fn := fn42) rfl rfl ?_
  by_cases hat : all.length ≤ at'
  · have hrec : recB all at' n = none := by simp [recB, hat]
    rw [hrec]
    have hat' : (all.length : Int) ≤ at' := by omega
    simp [runFun_eq, hat, hat', rrecV]
  · have hat' : ¬ (all.length : Int) ≤ at' := by omega
    obtain ⟨F, hF, hF'⟩ := get_at' all (i := at') (by omega)
    have hlen : F.length = 64 := h64 F (List.mem_of_getElem? hF)
    have hgd : all.getD at' [] = F := by rw [List.getD_eq_getElem?_getD, hF]; rfl
    rw [recB, if_neg hat, hgd]
    have hnum := rnumber4_run (F.take 4) (by simp [hlen])
    rw [num4_take] at hnum
    have hnl := num4_lt F
    obtain ⟨b10, e10, e10'⟩ := get_at' F (i := 10) (by omega)
    obtain ⟨b11, e11, e11'⟩ := get_at' F (i := 11) (by omega)
    have hk : recB.num2 F = b10.toNat + 256 * b11.toNat := by simp [recB.num2, List.getD_eq_getElem?_getD, e10, e11]
    have hd2 : (F.drop 10).take 2 = [b10, b11] := by
      apply List.ext_getElem?
      intro i
      match i with
      | 0 => simp [e10]
      | 1 => simp [e11]
      | i + 2 => simp [List.getElem?_take]; intro h; omega
    have hnum2 := rnumber2_run b10 b11
    rw [← hk, ← hd2] at hnum2
    have l10 := byte_lt b10
    have l11 := byte_lt b11
    have hkl : recB.num2 F < 65536 := by omega
    generalize recB.num2 F = k at *
    generalize num4 F = e at *
    by_cases h0 : e = 0
    · subst h0
      rw [if_pos (.inl rfl)]
      simp [-List.map_take, -List.map_drop, take_map, drop_map, runFun_eq, hat, hat', hF, hF', hlen, hnum, hnum2, rrecV]
    · have h0' : ¬ (e : Int) < 1 := by omega
      by_cases h1 : k = 0
      · subst h1
        rw [if_pos (.inr (.inl rfl))]
        simp [-List.map_take, -List.map_drop, take_map, drop_map, runFun_eq, hat, hat', hF, hF', hlen, hnum, hnum2, rrecV, h0']
      · have h1' : ¬ (k : Int) < 1 := by omega
        have hz1 : (all.length : Int) - at' < 1000000000000000 := by omega
        have hz2 : -1000000000000000 < (all.length : Int) - at' := by omega
        by_cases h2 : all.length < at' + k
        · have h2' : (all.length : Int) - at' < k := by omega
          rw [if_pos (.inr (.inr h2))]
          simp [-List.map_take, -List.map_drop, take_map, drop_map, runFun_eq, hat, hat', hF, hF', hlen, hnum, hnum2, rrecV, h0', h1', hz1, hz2, h2']
        · have h2' : ¬ (all.length : Int) - at' < k := by omega
          rw [if_neg (by rintro (h | h | h); exact h0 h; exact h1 h; exact h2 h)]
          have hlp := fun v s h => rdat_loop h64 (by omega) at' n e k (by omega) k 0 v s [] (by omega) (by simp [pay]) (by simp) h
          have hpl : (pay ((all.drop at').take k)).length < 100000000000 := by
            rw [pay_len _ (fun d hd => h64 d (List.mem_of_mem_drop (List.mem_of_mem_take hd)))]
            simp; omega
          have hpl2 : (pay ((all.drop at').take k)).length ≤ 52 * 4096 := by
            rw [pay_len _ (fun d hd => h64 d (List.mem_of_mem_drop (List.mem_of_mem_take hd)))]
            simp; omega
          have hop := ropen_run (pay ((all.drop at').take k)) hpl
          have hfl := fopB_len (pay ((all.drop at').take k))
          generalize pay ((all.drop at').take k) = D at *
          by_cases h3 : (fopB D).2.2 = 0
          · rw [if_neg (by simpa using h3)]
            have him := rimage_run (fopB D).1 n e (by omega) hn hnl
            generalize (fopB D).1 = P at *
            have hcl := fun s h => rcmp_loop (all := all) (by omega) at' k P (by omega) (imageB P n e) [] s
            by_cases h4 : (imageB P n e).length = k
            · have hcl := fun s h => rcmp_loop (all := all) (by omega) at' k P (by omega) (imageB P n e) [] s (by simpa using h4) (by simp) h
              simp only [List.nil_append] at hcl
              by_cases h5 : imageB P n e = (all.drop at').take k
              · rw [if_pos h5]
                rw [show (imageB P n e == (all.drop at').take k) = true from by simp [h5]] at hcl
                simp [-List.map_take, -List.map_drop, take_map, drop_map, runFun_eq, hat, hat', hF, hF', hlen, hnum, hnum2, rrecV, h0', h1', hz1, hz2, h2']
                simp only [ev_bnd_iff]
                refine Ev.mono (hlp _ _ (by simp; rfl)) ?_
                rintro ⟨_, s⟩ ⟨rfl, v', hs⟩
                simp at hs hop
                simp [hs, hop, h3, him, h4]
                simp only [ev_bnd_iff]
                refine Ev.mono (hcl _ (by simp [h4])) ?_
                rintro ⟨_, s⟩ (⟨rfl, hc, hs⟩ | ⟨rfl, hc, hs⟩)
                · cases hc
                · simp at hs
                  simp [hs]
              · rw [if_neg h5]
                rw [show (imageB P n e == (all.drop at').take k) = false from by simp [h5]] at hcl
                simp [-List.map_take, -List.map_drop, take_map, drop_map, runFun_eq, hat, hat', hF, hF', hlen, hnum, hnum2, rrecV, h0', h1', hz1, hz2, h2']
                simp only [ev_bnd_iff]
                refine Ev.mono (hlp _ _ (by simp; rfl)) ?_
                rintro ⟨_, s⟩ ⟨rfl, v', hs⟩
                simp at hs hop
                simp [hs, hop, h3, him, h4]
                simp only [ev_bnd_iff]
                refine Ev.mono (hcl _ (by simp [h4])) ?_
                rintro ⟨_, s⟩ (⟨rfl, hc, hs⟩ | ⟨rfl, hc, hs⟩)
                · dsimp only at hs
                  simp only [blkK, Ev_some, seqK, endK_hd hs]
                  simp
                · cases hc
            · have h5 : ¬ imageB P n e = (all.drop at').take k := by
                intro h
                apply h4
                rw [h]
                simp; omega
              rw [if_neg h5]
              have h4' : ¬ ((imageB P n e).length : Int) = k := by omega
              simp [-List.map_take, -List.map_drop, take_map, drop_map, runFun_eq, hat, hat', hF, hF', hlen, hnum, hnum2, rrecV, h0', h1', hz1, hz2, h2']
              simp only [ev_bnd_iff]
              refine Ev.mono (hlp _ _ (by simp; rfl)) ?_
              rintro ⟨_, s⟩ ⟨rfl, v', hs⟩
              simp at hs hop
              simp [hs, hop, h3, him, h4, h4']
          · rw [if_pos (by simpa using h3)]
            have h3' : ¬ ((fopB D).2.2 : Int) = 0 := by omega
            simp [-List.map_take, -List.map_drop, take_map, drop_map, runFun_eq, hat, hat', hF, hF', hlen, hnum, hnum2, rrecV, h0', h1', hz1, hz2, h2']
            simp only [ev_bnd_iff]
            refine Ev.mono (hlp _ _ (by simp; rfl)) ?_
            rintro ⟨_, s⟩ ⟨rfl, v', hs⟩
            simp at hs hop
            simp [hs, hop, h3, h3']
end Go.Am

/- Walks: a journal, opened. -/
set_option linter.unusedVariables false
set_option linter.unusedSimpArgs false
set_option maxRecDepth 10000
namespace Go.Am
open Go.Proofs

def mostB : List (List UInt8) → Nat → Nat
  | [], m => m
  | d :: r, m => mostB r (if m < num4 d then num4 d else m)

theorem mostB_lt : ∀ (l : List (List UInt8)) (m : Nat), m < 4294967296 → mostB l m < 4294967296
  | [], m, h => h
  | d :: r, m, h => by
    have := num4_lt d
    exact mostB_lt r _ (by split <;> omega)

def mstPost (v : Nat) (du : List (List UInt8)) (cr op : Int) (pv : AVal) (po : List Obj) (m : Nat) (q : AEx × St) : Prop := q.1 = .exit 0 ∧
  hd [0, 5] [] q.2 = some ⟨[(0, .ref (0, 0) 0), (5, .dat (.int .u32 m))], dst v du cr op pv po⟩

theorem mst_loop {v : Nat} {du : List (List UInt8)} {pe : List (Int × List UInt8)} {cr op : Int} {pv : AVal} {po : List Obj} (hp : Pend pe pv po) (hl : pe.length < 1000000000) (h64 : ∀ d ∈ du, d.length = 64) (h64' : ∀ w ∈ pe, w.2.length = 64) (hdl : du.length ≤ 4096) :
    ∀ (n i m : Nat) (s : St), i + n = du.length → m < 4294967296 →
    hd [0, 5, 19, 20] [0] s = some ⟨[(0, .ref (0, 0) 0), (5, .dat (.int .u32 m)), (19, .dat (.int .i64 du.length)), (20, .dat (.int .i64 i))], dst v du cr op pv po⟩ →
    Ev (loopLim (exec KJ l10_0) s) (mstPost v du cr op pv po (mostB ((allC du pe).drop i) m)) := by
  intro n
  induction n with
  | zero =>
    intro i m s hi hm hs
    apply ev_loop
    have h0 : (allC du pe).drop i = [] := List.drop_of_length_le (by rw [allC_len]; omega)
    have hi' : i = du.length := by omega
    subst hi'
    rw [h0]
    rcases hp with ⟨rfl, rfl, rfl⟩ | ⟨v2, rfl, rfl⟩ <;> simp [hs, mstPost, dst, dskB, mostB]
  | succ n ih =>
    intro i m s hi hm hs
    apply ev_loop
    have hlt : i < du.length := by omega
    have hx : Ix i := by unfold Ix; omega
    have hc := content_run (v := v) (du := du) (cr := cr) (op := op) hp hl (i := i) hlt
    have hlen := cont_len h64 h64' hlt
    have hnum := number_run (cont du pe i) (by omega)
    have hnl := num4_lt (cont du pe i)
    have hdr : (allC du pe).drop i = cont du pe i :: (allC du pe).drop (i + 1) := by
      have := allC_get du pe hlt
      rw [List.drop_eq_getElem_cons (by rw [allC_len]; exact hlt)]
      rw [List.getElem?_eq_getElem (by rw [allC_len]; exact hlt)] at this
      rw [Option.some.inj this]
    rw [hdr, mostB]
    have ih2 := ih (i + 1) (if m < num4 (cont du pe i) then num4 (cont du pe i) else m)
    generalize hQ : mstPost v du cr op pv po _ = Q at ih2 ⊢
    generalize hX : cont du pe i = X at *
    by_cases hgt : m < num4 X
    · have hgt' : (num4 X : Int) > m := by omega
      rcases hp with ⟨rfl, rfl, rfl⟩ | ⟨v2, rfl, rfl⟩ <;> simp [dsk, dskB] at hc
      all_goals
        simp [hs, dst, dskB, hlt, hx, hc, hnum, hgt]
        refine Ev.mono (ih2 _ (by omega) (by split <;> omega) (by simp [dst, dskB, hgt])) (fun _ h => h)
    · have hgt' : ¬ (num4 X : Int) > m := by omega
      rcases hp with ⟨rfl, rfl, rfl⟩ | ⟨v2, rfl, rfl⟩ <;> simp [dsk, dskB] at hc
      all_goals
        simp [hs, dst, dskB, hlt, hx, hc, hnum, hgt]
        refine Ev.mono (ih2 _ (by omega) (by split <;> omega) (by simp [dst, dskB, hgt])) (fun _ h => h)

/-- the records from a sector on, and where they end -/
def scanB : Nat → List (List UInt8) → Nat → Nat → List (List UInt8) × Nat
  | 0, _, at', _ => ([], at')
  | f + 1, all, at', n => match recB all at' n with
    | none => ([], at')
    | some (p, k) => (p :: (scanB f all (at' + k) (n + 1)).1, (scanB f all (at' + k) (n + 1)).2)

def jouB (recs : AVal) (next : Nat) (ep : Nat) (cr op : Int) : Obj := .box [.ref (0, 0) 0, recs, .dat (.int .i64 next), .dat (.int .u32 ep), .dat (.int .i64 cr), .dat (.int .i64 op)]

def RecS (rs : List (List UInt8)) (rv : AVal) (ro : Store) : Prop := (rs = [] ∧ rv = .nils ∧ ro = []) ∨ ∃ vr, rv = .rsl (8, 2) vr 1 0 rs.length ∧ ro = [((8, 2), .arr 1 vr false (rs.map Bs))]

def opnPost (v : Nat) (du : List (List UInt8)) (cr op : Int) (pv : AVal) (po : List Obj) (ep : Nat) (rs : List (List UInt8)) (e : Nat) (q : AEx × St) : Prop := q.1 = .ret ∧ ∃ rv ro vo, RecS rs rv ro ∧
  hd [2, 3, 4] [] q.2 = some ⟨[(2, .ref (8, 0) 0), (3, .rsl (9, 0) vo 1 0 rs.length), (4, .dat (.int .i64 0))], dst v du cr op pv po ++ [((8, 0), jouB rv e ep cr op), ((9, 0), .arr 1 vo false (rs.map Bs))] ++ ro⟩

theorem recB_some {all : List (List UInt8)} {at' n : Nat} {p : List UInt8} {k : Nat} (h : recB all at' n = some (p, k)) : at' < all.length ∧ 1 ≤ k ∧ at' + k ≤ all.length ∧ imageB p n (num4 (all.getD at' [])) = (all.drop at').take k := by
  unfold recB at h
  split at h
  · cases h
  · rename_i h0
    split at h
    · cases h
    · rename_i h1
      split at h
      · cases h
      · split at h
        · rename_i h2
          cases h
          refine ⟨by omega, ?_, ?_, h2⟩
          · by_cases hk : recB.num2 (all.getD at' []) = 0
            · exact absurd (.inr (.inl hk)) h1
            · omega
          · by_cases hk : all.length < at' + recB.num2 (all.getD at' [])
            · exact absurd (.inr (.inr hk)) h1
            · omega
        · cases h

theorem opn_loop {v : Nat} {du : List (List UInt8)} {pe : List (Int × List UInt8)} {cr op : Int} {pv : AVal} {po : List Obj} (hp : Pend pe pv po) (hl : pe.length < 1000000000) (h64 : ∀ d ∈ du, d.length = 64) (h64' : ∀ w ∈ pe, w.2.length = 64) (hdl : du.length ≤ 4096) (ep : Nat) :
    ∀ (f at' vo : Nat) (rs : List (List UInt8)) (rv : AVal) (ro : Store) (s : St), du.length + 1 ≤ f + at' → at' ≤ du.length → rs.length ≤ at' → RecS rs rv ro →
    hd [0, 7, 8] [0, 7, 8] s = some ⟨[(0, .ref (0, 0) 0), (7, .ref (8, 0) 0), (8, .rsl (9, 0) vo 1 0 rs.length)], dst v du cr op pv po ++ [((8, 0), jouB rv at' ep cr op), ((9, 0), .arr 1 vo false (rs.map Bs))] ++ ro⟩ →
    Ev (loopLim (exec KJ l10_1) s) (opnPost v du cr op pv po ep (rs ++ (scanB f (allC du pe) at' rs.length).1) (scanB f (allC du pe) at' rs.length).2) := by
  intro f
  induction f with
  | zero => intro at' vo rs rv ro s hf ha; omega
  | succ f ih =>
    intro at' vo rs rv ro s hf ha hrs hr hs
    apply ev_loop
    have hrec := record_run (v := v) (cr := cr) (op := op) hp hl h64 h64' hdl at' rs.length (by omega) (by omega)
    have hm : (rs.length : Int) % 4294967296 = rs.length := by omega
    have hm' : rs.length % 4294967296 = rs.length := by omega
    cases hR : recB (allC du pe) at' rs.length with
    | none =>
      rw [hR] at hrec
      have hsc : scanB (f + 1) (allC du pe) at' rs.length = ([], at') := by simp [scanB, hR]
      rw [hsc]
      simp only [recV] at hrec
      rcases hp with ⟨rfl, rfl, rfl⟩ | ⟨v2, rfl, rfl⟩ <;> rcases hr with ⟨rfl, rfl, rfl⟩ | ⟨vr, rfl, rfl⟩ <;> simp [dsk, dskB] at hrec
      · simp [hs, dst, dskB, jouB, hrec, hm]
        exact ⟨rfl, _, _, vo, .inl ⟨rfl, rfl, rfl⟩, by simp [dst, dskB, jouB]⟩
      · simp [hs, dst, dskB, jouB, hrec, hm]
        exact ⟨rfl, _, _, vo, .inr ⟨vr, rfl, rfl⟩, by simp [dst, dskB, jouB]⟩
      · simp [hs, dst, dskB, jouB, hrec, hm]
        exact ⟨rfl, _, _, vo, .inl ⟨rfl, rfl, rfl⟩, by simp [dst, dskB, jouB]⟩
      · simp [hs, dst, dskB, jouB, hrec, hm]
        exact ⟨rfl, _, _, vo, .inr ⟨vr, rfl, rfl⟩, by simp [dst, dskB, jouB]⟩
    | some pk =>
      obtain ⟨p, k⟩ := pk
      rw [hR] at hrec
      obtain ⟨r1, r2, r3, r4⟩ := recB_some hR
      rw [allC_len] at r1 r3
      have hsc : scanB (f + 1) (allC du pe) at' rs.length = (p :: (scanB f (allC du pe) (at' + k) (rs.length + 1)).1, (scanB f (allC du pe) (at' + k) (rs.length + 1)).2) := by simp [scanB, hR]
      rw [hsc]
      have hpl : p.length < 100000000000 := by
        have := imageB_len p rs.length (num4 ((allC du pe).getD at' []))
        rw [r4, List.length_take, List.length_drop, allC_len] at this
        have h2 : p.length ≤ (sealB p).length := by simp [sealB]; omega
        unfold cntB at this
        omega
      have hcl := clone_run p hpl
      have hr1 : (rs.length + 1) * 25 ≤ 1099511627776 := by omega
      have hn1 : (at' : Int) + k < 1000000000000000 := by omega
      have hn2 : -1000000000000000 < (at' : Int) + k := by omega
      have e1 : rs ++ p :: (scanB f (allC du pe) (at' + k) (rs.length + 1)).1 = (rs ++ [p]) ++ (scanB f (allC du pe) (at' + k) (rs ++ [p]).length).1 := by simp
      have e2 : (scanB f (allC du pe) (at' + k) (rs.length + 1)).2 = (scanB f (allC du pe) (at' + k) (rs ++ [p]).length).2 := by simp
      dsimp only
      rw [e1, e2]
      have ih2 := ih (at' + k) (vo + 1) (rs ++ [p])
      generalize hQ : opnPost v du cr op pv po ep _ _ = Q at ih2 ⊢
      simp only [recV] at hrec
      rcases hp with ⟨rfl, rfl, rfl⟩ | ⟨v2, rfl, rfl⟩ <;> rcases hr with ⟨rfl, rfl, rfl⟩ | ⟨vr, rfl, rfl⟩ <;> simp [dsk, dskB] at hrec
      · simp [hs, dst, dskB, jouB, hrec, hm, hcl, hr1, hn1, hn2]
        refine Ev.mono (ih2 _ _ _ (by omega) (by omega) (by simp; omega) (.inr ⟨0, rfl, rfl⟩) (by simp [dst, dskB, jouB])) (fun _ h => h)
      · simp [hs, dst, dskB, jouB, hrec, hm, hcl, hr1, hn1, hn2]
        refine Ev.mono (ih2 _ _ _ (by omega) (by omega) (by simp; omega) (.inr ⟨vr + 1, rfl, rfl⟩) (by simp [dst, dskB, jouB])) (fun _ h => h)
      · simp [hs, dst, dskB, jouB, hrec, hm, hcl, hr1, hn1, hn2]
        refine Ev.mono (ih2 _ _ _ (by omega) (by omega) (by simp; omega) (.inr ⟨0, rfl, rfl⟩) (by simp [dst, dskB, jouB])) (fun _ h => h)
      · simp [hs, dst, dskB, jouB, hrec, hm, hcl, hr1, hn1, hn2]
        refine Ev.mono (ih2 _ _ _ (by omega) (by omega) (by simp; omega) (.inr ⟨vr + 1, rfl, rfl⟩) (by simp [dst, dskB, jouB])) (fun _ h => h)
end Go.Am

/- Walks: a journal, opened. -/
set_option linter.unusedVariables false
set_option linter.unusedSimpArgs false
set_option maxRecDepth 10000
namespace Go.Am
open Go.Proofs

/-- the records of a journal, behind b objects -/
def RecO (b : Nat) (rs : List (List UInt8)) (rv : AVal) (ro : List Obj) : Prop := (rs = [] ∧ rv = .nils ∧ ro = []) ∨ ∃ vr, rv = .rsl (0, b) vr 1 0 rs.length ∧ ro = [.arr 1 vr false (rs.map Bs)]

theorem open_full {v : Nat} {du : List (List UInt8)} {pe : List (Int × List UInt8)} {cr op : Int} {pv : AVal} {po : List Obj} (hp : Pend pe pv po) (hl : pe.length < 1000000000) (h64 : ∀ d ∈ du, d.length = 64) (h64' : ∀ w ∈ pe, w.2.length = 64) (hdl : du.length ≤ 4096)
    (hm : mostB (allC du pe) 0 = 4294967295) : KJ 10 [.ref (0, 0) 0] (dsk v du cr op pv po) = some (.tup [.nilp, .dat (.sl []), .dat (.int .i64 24)], dsk v du cr op pv po) := by
  refine callT_ev (fn := fn10) rfl rfl ?_
  have hv := valid_run (v := v) (du := du) (cr := cr) (op := op) hp
  have hlp := fun s h => mst_loop (v := v) (cr := cr) (op := op) hp hl h64 h64' hdl du.length 0 0 s (by omega) (by omega) h
  rw [List.drop_zero, hm] at hlp
  rcases hp with ⟨rfl, rfl, rfl⟩ | ⟨v2, rfl, rfl⟩ <;> simp [dsk, dskB] at hv
  all_goals
    simp [runFun_eq, dsk, dskB, hv]
    simp only [ev_bnd_iff]
    refine Ev.mono (hlp _ (by simp [dst, dskB])) ?_
    rintro ⟨_, s⟩ ⟨rfl, hs⟩
    dsimp only at hs
    simp [hs, dst, dskB]

theorem open_run {v : Nat} {du : List (List UInt8)} {pe : List (Int × List UInt8)} {cr op : Int} {pv : AVal} {po : List Obj} (hp : Pend pe pv po) (hl : pe.length < 1000000000) (h64 : ∀ d ∈ du, d.length = 64) (h64' : ∀ w ∈ pe, w.2.length = 64) (hdl : du.length ≤ 4096)
    (hop : 0 ≤ op) (hop2 : op < 1000000000) (hm : mostB (allC du pe) 0 ≠ 4294967295) :
    ∃ rv ro, RecO (3 + po.length) (scanB (du.length + 1) (allC du pe) 0 0).1 rv ro ∧
      KJ 10 [.ref (0, 0) 0] (dsk v du cr op pv po) = some (.tup [.ref (0, 2 + po.length) 0, .dat (.sl ((scanB (du.length + 1) (allC du pe) 0 0).1.map Bs)), .dat (.int .i64 0)],
        dsk v du cr (op + 1) pv po ++ [jouB rv (scanB (du.length + 1) (allC du pe) 0 0).2 (mostB (allC du pe) 0 + 1) cr (op + 1)] ++ ro) := by
  have hv := valid_run (v := v) (du := du) (cr := cr) (op := op) hp
  have hlp := fun s h => mst_loop (v := v) (cr := cr) (op := op) hp hl h64 h64' hdl du.length 0 0 s (by omega) (by omega) h
  have hlp2 := fun ep rv ro s hr h => opn_loop (v := v) (cr := cr) (op := op + 1) hp hl h64 h64' hdl ep (du.length + 1) 0 0 [] rv ro s (by omega) (by omega) (by simp) hr h
  have hml := mostB_lt (allC du pe) 0 (by omega)
  rw [List.drop_zero] at hlp
  simp only [List.nil_append, List.length_nil] at hlp2
  generalize hM : mostB (allC du pe) 0 = M at *
  generalize hS : scanB (du.length + 1) (allC du pe) 0 0 = S at *
  obtain ⟨rs, en⟩ := S
  dsimp only at *
  have hm1 : ¬ (M : Int) = 4294967295 := by omega
  have ho1 : op + 1 < 1000000000000000 := by omega
  have ho2 : -1000000000000000 < op + 1 := by omega
  have hm2 : ((M : Int) + 1) % 4294967296 = M + 1 := by omega
  have key : Ev (runFun KJ fn10 [.ref (0, 0) 0] (dsk v du cr op pv po)) fun r => ∃ rv ro, RecO (3 + po.length) rs rv ro ∧ r = (.tup [.ref (0, 2 + po.length) 0, .dat (.sl (rs.map Bs)), .dat (.int .i64 0)],
        dsk v du cr (op + 1) pv po ++ [jouB rv en (M + 1) cr (op + 1)] ++ ro) := by
    rcases hp with ⟨rfl, rfl, rfl⟩ | ⟨v2, rfl, rfl⟩ <;> simp [dsk, dskB] at hv
    · generalize hQ : (fun r => ∃ rv ro, RecO (3 + ([] : List Obj).length) rs rv ro ∧ r = (AVal.tup [.ref (0, 2 + ([] : List Obj).length) 0, .dat (.sl (rs.map Bs)), .dat (.int .i64 0)], dsk v du cr (op + 1) .nils [] ++ [jouB rv en (M + 1) cr (op + 1)] ++ ro)) = Q
      simp [runFun_eq, dsk, dskB, hv]
      simp only [ev_bnd_iff]
      refine Ev.mono (hlp _ (by simp [dst, dskB])) ?_
      rintro ⟨_, s⟩ ⟨rfl, hs⟩
      dsimp only at hs
      simp [hs, dst, dskB, hm1, ho1, ho2, hm2]
      simp only [ev_bnd_iff]
      refine Ev.mono (hlp2 (M + 1) _ _ _ (.inl ⟨rfl, rfl, rfl⟩) (by simp [dst, dskB, jouB])) ?_
      rintro ⟨_, s⟩ ⟨rfl, rv, ro, vo, hr, hs⟩
      dsimp only at hs
      simp only [blkK, Ev_some, seqK, endK_hd hs]
      rcases hr with ⟨rfl, rfl, rfl⟩ | ⟨vr, rfl, rfl⟩
      · simp [dst, dskB, jouB]
        rw [← hQ]
        exact ⟨.nils, [], .inl ⟨rfl, rfl, rfl⟩, by simp [dsk, dskB, jouB]⟩
      · simp [dst, dskB, jouB]
        rw [← hQ]
        exact ⟨_, _, .inr ⟨vr, rfl, rfl⟩, by simp [dsk, dskB, jouB]⟩
    · generalize hQ : (fun r => ∃ rv ro, RecO (3 + [Obj.arr 2 v2 false (pe.map pnd)].length) rs rv ro ∧ r = (AVal.tup [.ref (0, 2 + [Obj.arr 2 v2 false (pe.map pnd)].length) 0, .dat (.sl (rs.map Bs)), .dat (.int .i64 0)], dsk v du cr (op + 1) (.rsl (0, 2) v2 2 0 pe.length) [Obj.arr 2 v2 false (pe.map pnd)] ++ [jouB rv en (M + 1) cr (op + 1)] ++ ro)) = Q
      simp [runFun_eq, dsk, dskB, hv]
      simp only [ev_bnd_iff]
      refine Ev.mono (hlp _ (by simp [dst, dskB])) ?_
      rintro ⟨_, s⟩ ⟨rfl, hs⟩
      dsimp only at hs
      simp [hs, dst, dskB, hm1, ho1, ho2, hm2]
      simp only [ev_bnd_iff]
      refine Ev.mono (hlp2 (M + 1) _ _ _ (.inl ⟨rfl, rfl, rfl⟩) (by simp [dst, dskB, jouB])) ?_
      rintro ⟨_, s⟩ ⟨rfl, rv, ro, vo, hr, hs⟩
      dsimp only at hs
      simp only [blkK, Ev_some, seqK, endK_hd hs]
      rcases hr with ⟨rfl, rfl, rfl⟩ | ⟨vr, rfl, rfl⟩
      · simp [dst, dskB, jouB]
        rw [← hQ]
        exact ⟨.nils, [], .inl ⟨rfl, rfl, rfl⟩, by simp [dsk, dskB, jouB]⟩
      · simp [dst, dskB, jouB]
        rw [← hQ]
        exact ⟨_, _, .inr ⟨vr, rfl, rfl⟩, by simp [dsk, dskB, jouB]⟩
  obtain ⟨r, hr, rv, ro, h1, rfl⟩ := key
  exact ⟨rv, ro, h1, callT_ev (fn := fn10) rfl rfl ⟨_, hr, rfl⟩⟩
end Go.Am

/- Walks: a record, appended. -/
set_option linter.unusedVariables false
set_option linter.unusedSimpArgs false
set_option maxRecDepth 10000
namespace Go.Am
open Go.Proofs

def wrs : List (List UInt8) → Nat → List (Int × List UInt8)
  | [], _ => []
  | s :: r, i => ((i : Int), s) :: wrs r (i + 1)

theorem wrs_len : ∀ (W : List (List UInt8)) (i : Nat), (wrs W i).length = W.length
  | [], _ => rfl
  | s :: r, i => by simp [wrs, wrs_len r]

theorem wrs_snoc : ∀ (W : List (List UInt8)) (s : List UInt8) (i : Nat), wrs (W ++ [s]) i = wrs W i ++ [(((i + W.length : Nat) : Int), s)]
  | [], s, i => by simp [wrs]
  | x :: r, s, i => by simp [wrs, wrs_snoc r s (i + 1)]; omega

theorem wrs_in : ∀ (W : List (List UInt8)) (i n : Nat), i + W.length ≤ n → ∀ w ∈ wrs W i, 0 ≤ w.1 ∧ w.1 < n
  | [], i, n, _, w, h => by simp [wrs] at h
  | s :: r, i, n, hl, w, h => by
    rw [List.length_cons] at hl
    simp only [wrs, List.mem_cons] at h
    rcases h with rfl | h
    · constructor
      · simp
      · simp; omega
    · exact wrs_in r (i + 1) n (by omega) w h

/-- sectors written one behind the other -/
def setAll : List (List UInt8) → Nat → List (List UInt8) → List (List UInt8)
  | du, _, [] => du
  | du, i, s :: r => setAll (du.set i s) (i + 1) r

theorem sync_wrs : ∀ (W : List (List UInt8)) (i : Nat) (du : List (List UInt8)), syncS (wrs W i) du = setAll du i W
  | [], _, _ => rfl
  | s :: r, i, du => by simp [wrs, syncS, setAll, sync_wrs r]

/-- a journal's objects in a store, behind its own records -/
structure JSh where
  rv : AVal
  ro : Store
  did : Id
  pid : Id

def JShOK (rs : List (List UInt8)) (j : JSh) : Prop := (rs = [] ∧ j = ⟨.nils, [], (0, 2), (1, 3)⟩) ∨ ∃ vr, j = ⟨.rsl (0, 2) vr 1 0 rs.length, [((0, 2), .arr 1 vr false (rs.map Bs))], (0, 3), (1, 4)⟩

def jouA (recs : AVal) (next ep : Nat) (cr op : Int) : Obj := .box [.ref (0, 1) 0, recs, .dat (.int .i64 next), .dat (.int .u32 ep), .dat (.int .i64 cr), .dat (.int .i64 op)]

def PendI (pid : Id) (pe : List (Int × List UInt8)) (pv : AVal) (ps : Store) : Prop :=
  (pv = .nils ∧ ps = [] ∧ pe = []) ∨ ∃ v2, pv = .rsl pid v2 2 0 pe.length ∧ ps = [(pid, .arr 2 v2 false (pe.map pnd))]

def jst (j : JSh) (v : Nat) (du : List (List UInt8)) (cr op : Int) (next ep : Nat) (pv : AVal) (ps : Store) : Store :=
  ((0, 0), jouA j.rv next ep cr op) :: ((0, 1), dskB (.rsl j.did v 1 0 du.length) pv cr op) :: (j.ro ++ (j.did, .arr 1 v false (du.map Bs)) :: ps)

def appPost (j : JSh) (v : Nat) (du : List (List UInt8)) (cr op : Int) (next ep : Nat) (b : List UInt8) (W : List (List UInt8)) (q : AEx × St) : Prop := q.1 = .exit 0 ∧ ∃ pv ps, PendI j.pid (wrs W next) pv ps ∧
  hd [0, 1, 5] [] q.2 = some ⟨[(0, .ref (0, 0) 0), (1, .dat (Bs b)), (5, .dat (.sl (W.map Bs)))], jst j v du cr op next ep pv ps⟩

theorem app_loop {rs : List (List UInt8)} {j : JSh} (hj : JShOK rs j) (v : Nat) (du : List (List UInt8)) (cr op : Int) (next ep : Nat) (b : List UInt8) (hdl : du.length ≤ 4096) :
    ∀ (rest pre : List (List UInt8)) (pv : AVal) (ps : Store) (s : St), (∀ d ∈ rest, d.length = 64) → next + pre.length + rest.length ≤ du.length → PendI j.pid (wrs pre next) pv ps →
    hd [0, 1, 5, 65, 66, 67] [0, 1, 5, 65] s = some ⟨[(0, .ref (0, 0) 0), (1, .dat (Bs b)), (5, .dat (.sl ((pre ++ rest).map Bs))), (65, .dat (.sl ((pre ++ rest).map Bs))), (66, .dat (.int .i64 (pre ++ rest).length)), (67, .dat (.int .i64 pre.length))], jst j v du cr op next ep pv ps⟩ →
    Ev (loopLim (exec KJ l13_0) s) (appPost j v du cr op next ep b (pre ++ rest)) := by
  intro rest
  induction rest with
  | nil =>
    intro pre pv ps s h64 hle hp hs
    apply ev_loop
    rcases hj with ⟨rfl, rfl⟩ | ⟨vr, rfl⟩ <;> rcases hp with ⟨rfl, rfl, h0⟩ | ⟨v2, rfl, rfl⟩
    · simp [hs, jst, dskB, jouA]
      exact ⟨rfl, _, _, .inl ⟨rfl, rfl, by simpa using h0⟩, by simp [jst, dskB, jouA]⟩
    · simp [hs, jst, dskB, jouA]
      exact ⟨rfl, _, _, .inr ⟨v2, rfl, rfl⟩, by simp [jst, dskB, jouA]⟩
    · simp [hs, jst, dskB, jouA]
      exact ⟨rfl, _, _, .inl ⟨rfl, rfl, by simpa using h0⟩, by simp [jst, dskB, jouA]⟩
    · simp [hs, jst, dskB, jouA]
      exact ⟨rfl, _, _, .inr ⟨v2, rfl, rfl⟩, by simp [jst, dskB, jouA]⟩
  | cons d rest ih =>
    intro pre pv ps s h64 hle hp hs
    apply ev_loop
    rw [List.length_cons] at hle
    have hx : Ix pre.length := by unfold Ix; omega
    have hd64 := h64 d (by simp)
    have ha1 : (next : Int) + pre.length < 1000000000000000 := by omega
    have ha2 : -1000000000000000 < (next : Int) + pre.length := by omega
    have hwl := wrs_len pre next
    have e1 : pre ++ d :: rest = (pre ++ [d]) ++ rest := by simp
    rw [e1]
    have ih2 := ih (pre ++ [d])
    rw [wrs_snoc] at ih2
    generalize hQ : appPost j v du cr op next ep b (pre ++ [d] ++ rest) = Q at ih2 ⊢
    rcases hp with ⟨rfl, rfl, h0⟩ | ⟨v2, rfl, rfl⟩
    · obtain ⟨v3, hw⟩ := write_run (v := v) (du := du) (cr := cr) (op := op) (pe := []) (.inl ⟨rfl, rfl, rfl⟩) (by simp) (i := next + pre.length) (by omega) hd64
      rw [h0] at ih2
      simp [dsk, dskB] at hw
      rcases hj with ⟨rfl, rfl⟩ | ⟨vr, rfl⟩
      · simp [hs, jst, dskB, jouA, hx, ha1, ha2, hw]
        refine Ev.mono (ih2 _ _ _ (fun x hx => h64 x (by simp [hx])) (by simp; omega) (.inr ⟨v3, rfl, rfl⟩) (by simp [jst, dskB, jouA])) (fun _ h => h)
      · simp [hs, jst, dskB, jouA, hx, ha1, ha2, hw]
        refine Ev.mono (ih2 _ _ _ (fun x hx => h64 x (by simp [hx])) (by simp; omega) (.inr ⟨v3, rfl, rfl⟩) (by simp [jst, dskB, jouA])) (fun _ h => h)
    · obtain ⟨v3, hw⟩ := write_run (v := v) (du := du) (cr := cr) (op := op) (pe := wrs pre next) (.inr ⟨v2, rfl, rfl⟩) (by omega) (i := next + pre.length) (by omega) hd64
      simp [dsk, dskB] at hw
      rcases hj with ⟨rfl, rfl⟩ | ⟨vr, rfl⟩
      · simp [hs, jst, dskB, jouA, hx, ha1, ha2, hw]
        refine Ev.mono (ih2 _ _ _ (fun x hx => h64 x (by simp [hx])) (by simp; omega) (.inr ⟨v3, rfl, rfl⟩) (by simp [jst, dskB, jouA])) (fun _ h => h)
      · simp [hs, jst, dskB, jouA, hx, ha1, ha2, hw]
        refine Ev.mono (ih2 _ _ _ (fun x hx => h64 x (by simp [hx])) (by simp; omega) (.inr ⟨v3, rfl, rfl⟩) (by simp [jst, dskB, jouA])) (fun _ h => h)
end Go.Am

/- Walks: a record, appended. -/
set_option linter.unusedVariables false
set_option linter.unusedSimpArgs false
set_option maxRecDepth 10000
namespace Go.Am
open Go.Proofs

theorem setAll_len : ∀ (W : List (List UInt8)) (du : List (List UInt8)) (i : Nat), (setAll du i W).length = du.length
  | [], _, _ => rfl
  | s :: r, du, i => by rw [setAll, setAll_len r]; simp

theorem jvalid_a {rv : AVal} {next ep : Nat} {jcr jop cr op : Int} {v : Nat} {du : List (List UInt8)} :
    KJ 39 [.ref (0, 0) 0] [jouA .nils next ep jcr jop, dskB (.rsl (0, 2) v 1 0 du.length) .nils cr op, .arr 1 v false (du.map Bs)] = some (.dat (.bool true), [jouA .nils next ep jcr jop, dskB (.rsl (0, 2) v 1 0 du.length) .nils cr op, .arr 1 v false (du.map Bs)]) :=
  callT_ev (fn := fn39) rfl rfl (by simp [runFun_eq, jouA, dskB])
theorem jvalid_b {vr : Nat} {rs : List (List UInt8)} {next ep : Nat} {jcr jop cr op : Int} {v : Nat} {du : List (List UInt8)} :
    KJ 39 [.ref (0, 0) 0] [jouA (.rsl (0, 2) vr 1 0 rs.length) next ep jcr jop, dskB (.rsl (0, 3) v 1 0 du.length) .nils cr op, .arr 1 vr false (rs.map Bs), .arr 1 v false (du.map Bs)] =
      some (.dat (.bool true), [jouA (.rsl (0, 2) vr 1 0 rs.length) next ep jcr jop, dskB (.rsl (0, 3) v 1 0 du.length) .nils cr op, .arr 1 vr false (rs.map Bs), .arr 1 v false (du.map Bs)]) :=
  callT_ev (fn := fn39) rfl rfl (by simp [runFun_eq, jouA, dskB])

theorem app_arith {W du : List (List UInt8)} {next : Nat} (hn : next ≤ du.length) (hdl : du.length ≤ 4096) (hf : next + W.length ≤ du.length) :
    (du.length : Int) - next < 1000000000000000 ∧ -1000000000000000 < (du.length : Int) - next ∧ ¬ (du.length : Int) - next < W.length ∧ (next : Int) + W.length < 1000000000000000 ∧ -1000000000000000 < (next : Int) + W.length := by omega

theorem imageB_64 (p : List UInt8) (n e : Nat) : ∀ d ∈ imageB p n e, d.length = 64 := by
  intro d hd
  simp only [imageB, List.mem_map] at hd
  obtain ⟨j, _, rfl⟩ := hd
  simp [secB, sumB, le2]
  have : (chunk (sealB p) j).length ≤ 52 := by simp [chunk]; omega
  omega

theorem append_a (v : Nat) (du : List (List UInt8)) (cr op : Int) (next ep : Nat) (b : List UInt8) (hdl : du.length ≤ 4096) (hn : next ≤ du.length) (hep : ep < 4294967296) (hb : b.length < 100000)
    (hf : next + (imageB b 0 ep).length ≤ du.length) :
    KJ 13 [.ref (0, 0) 0, .dat (Bs b)] [jouA .nils next ep cr op, dskB (.rsl (0, 2) v 1 0 du.length) .nils cr op, .arr 1 v false (du.map Bs)] =
      some (.dat (.int .i64 0), [jouA (.rsl (0, 3) 0 1 0 1) (next + (imageB b 0 ep).length) ep cr op, dskB (.rsl (0, 2) v 1 0 du.length) .nils cr op, .arr 1 v false ((setAll du next (imageB b 0 ep)).map Bs), .arr 1 0 false [Bs b]]) := by
  refine callT_ev (fn := fn13) rfl rfl ?_
  have hv := jvalid_a (rv := .nils) (next := next) (ep := ep) (jcr := cr) (jop := op) (cr := cr) (op := op) (v := v) (du := du)
  have hi := image_run b 0 ep (by omega) (by omega) hep
  have h64 := imageB_64 b 0 ep
  have hc := clone_run b (by omega)
  have hlp := fun s h => app_loop (rs := []) (j := ⟨.nils, [], (0, 2), (1, 3)⟩) (.inl ⟨rfl, rfl⟩) v du cr op next ep b hdl (imageB b 0 ep) [] .nils [] s h64 (by simp; omega) (.inl ⟨rfl, rfl, rfl⟩) h
  have hin := wrs_in (imageB b 0 ep) next du.length hf
  have hwl := wrs_len (imageB b 0 ep) next
  have hsw := sync_wrs (imageB b 0 ep) next du
  generalize imageB b 0 ep = W at *
  obtain ⟨a1, a2, a3, a4, a5⟩ := app_arith hn hdl hf
  simp [jouA, dskB] at hv hi
  simp [runFun_eq, jouA, dskB, hv, hi, a1, a2, a3]
  simp only [ev_bnd_iff]
  refine Ev.mono (hlp _ (by simp [jst, jouA, dskB])) ?_
  rintro ⟨_, s⟩ ⟨rfl, pv, ps, hp, hs⟩
  dsimp only at hs
  rw [List.nil_append] at hs hp
  rcases hp with ⟨rfl, rfl, h0⟩ | ⟨v2, rfl, rfl⟩
  · have hsy := sync_none v du cr op
    rw [h0] at hsw
    simp [dsk, dskB] at hsy
    simp [syncS] at hsw
    simp [hs, jst, dskB, jouA, hsy, hc, a4, a5, ← hsw]
  · have hsy := sync_run v v2 du cr op (wrs W next) hin (by omega)
    simp [dsk, dskB, hsw, syncS_len] at hsy
    simp [hs, jst, dskB, jouA, hsy, hc, a4, a5, setAll_len]

theorem append_b (v vr : Nat) (rs : List (List UInt8)) (du : List (List UInt8)) (cr op : Int) (next ep : Nat) (b : List UInt8) (hdl : du.length ≤ 4096) (hn : next ≤ du.length) (hep : ep < 4294967296) (hb : b.length < 100000) (hrs : rs.length < 100000)
    (hf : next + (imageB b rs.length ep).length ≤ du.length) :
    KJ 13 [.ref (0, 0) 0, .dat (Bs b)] [jouA (.rsl (0, 2) vr 1 0 rs.length) next ep cr op, dskB (.rsl (0, 3) v 1 0 du.length) .nils cr op, .arr 1 vr false (rs.map Bs), .arr 1 v false (du.map Bs)] =
      some (.dat (.int .i64 0), [jouA (.rsl (0, 2) (vr + 1) 1 0 (rs.length + 1)) (next + (imageB b rs.length ep).length) ep cr op, dskB (.rsl (0, 3) v 1 0 du.length) .nils cr op, .arr 1 (vr + 1) false ((rs ++ [b]).map Bs), .arr 1 v false ((setAll du next (imageB b rs.length ep)).map Bs)]) := by
  refine callT_ev (fn := fn13) rfl rfl ?_
  have hv := jvalid_b (vr := vr) (rs := rs) (next := next) (ep := ep) (jcr := cr) (jop := op) (cr := cr) (op := op) (v := v) (du := du)
  have hi := image_run b rs.length ep (by omega) (by omega) hep
  have h64 := imageB_64 b rs.length ep
  have hc := clone_run b (by omega)
  have hlp := fun s h => app_loop (rs := rs) (j := ⟨.rsl (0, 2) vr 1 0 rs.length, [((0, 2), .arr 1 vr false (rs.map Bs))], (0, 3), (1, 4)⟩) (.inr ⟨vr, rfl⟩) v du cr op next ep b hdl (imageB b rs.length ep) [] .nils [] s h64 (by simp; omega) (.inl ⟨rfl, rfl, rfl⟩) h
  have hin := wrs_in (imageB b rs.length ep) next du.length hf
  have hwl := wrs_len (imageB b rs.length ep) next
  have hsw := sync_wrs (imageB b rs.length ep) next du
  have hm : (rs.length : Int) % 4294967296 = rs.length := by omega
  have hr : (rs.length + 1) * 25 ≤ 1099511627776 := by omega
  generalize imageB b rs.length ep = W at *
  obtain ⟨a1, a2, a3, a4, a5⟩ := app_arith hn hdl hf
  simp [jouA, dskB] at hv hi
  simp [runFun_eq, jouA, dskB, hv, hi, a1, a2, a3, hm]
  simp only [ev_bnd_iff]
  refine Ev.mono (hlp _ (by simp [jst, jouA, dskB])) ?_
  rintro ⟨_, s⟩ ⟨rfl, pv, ps, hp, hs⟩
  dsimp only at hs
  rw [List.nil_append] at hs hp
  rcases hp with ⟨rfl, rfl, h0⟩ | ⟨v2, rfl, rfl⟩
  · have hsy := sync_none v du cr op
    rw [h0] at hsw
    simp [dsk, dskB] at hsy
    simp [syncS] at hsw
    simp [hs, jst, dskB, jouA, hsy, hc, a4, a5, hr, ← hsw]
  · have hsy := sync_run v v2 du cr op (wrs W next) hin (by omega)
    simp [dsk, dskB, hsw, syncS_len] at hsy
    simp [hs, jst, dskB, jouA, hsy, hc, a4, a5, hr, setAll_len]

theorem append_full_a (v : Nat) (du : List (List UInt8)) (cr op : Int) (next ep : Nat) (b : List UInt8) (hdl : du.length ≤ 4096) (hn : next ≤ du.length) (hep : ep < 4294967296) (hb : b.length < 100000)
    (hf : ¬ next + (imageB b 0 ep).length ≤ du.length) :
    ∃ os', KJ 13 [.ref (0, 0) 0, .dat (Bs b)] [jouA .nils next ep cr op, dskB (.rsl (0, 2) v 1 0 du.length) .nils cr op, .arr 1 v false (du.map Bs)] = some (.dat (.int .i64 24), os') ∧ os' = [jouA .nils next ep cr op, dskB (.rsl (0, 2) v 1 0 du.length) .nils cr op, .arr 1 v false (du.map Bs)] := by
  refine ⟨_, callT_ev (fn := fn13) rfl rfl ?_, rfl⟩
  have hv := jvalid_a (rv := .nils) (next := next) (ep := ep) (jcr := cr) (jop := op) (cr := cr) (op := op) (v := v) (du := du)
  have hi := image_run b 0 ep (by omega) (by omega) hep
  generalize imageB b 0 ep = W at *
  have a1 : (du.length : Int) - next < 1000000000000000 := by omega
  have a2 : -1000000000000000 < (du.length : Int) - next := by omega
  have a3 : (du.length : Int) - next < W.length := by omega
  simp [jouA, dskB] at hv hi
  simp [runFun_eq, jouA, dskB, hv, hi, a1, a2, a3]

theorem append_full_b (v vr : Nat) (rs : List (List UInt8)) (du : List (List UInt8)) (cr op : Int) (next ep : Nat) (b : List UInt8) (hdl : du.length ≤ 4096) (hn : next ≤ du.length) (hep : ep < 4294967296) (hb : b.length < 100000) (hrs : rs.length < 100000)
    (hf : ¬ next + (imageB b rs.length ep).length ≤ du.length) :
    ∃ os', KJ 13 [.ref (0, 0) 0, .dat (Bs b)] [jouA (.rsl (0, 2) vr 1 0 rs.length) next ep cr op, dskB (.rsl (0, 3) v 1 0 du.length) .nils cr op, .arr 1 vr false (rs.map Bs), .arr 1 v false (du.map Bs)] = some (.dat (.int .i64 24), os') ∧
      os' = [jouA (.rsl (0, 2) vr 1 0 rs.length) next ep cr op, dskB (.rsl (0, 3) v 1 0 du.length) .nils cr op, .arr 1 vr false (rs.map Bs), .arr 1 v false (du.map Bs)] := by
  refine ⟨_, callT_ev (fn := fn13) rfl rfl ?_, rfl⟩
  have hv := jvalid_b (vr := vr) (rs := rs) (next := next) (ep := ep) (jcr := cr) (jop := op) (cr := cr) (op := op) (v := v) (du := du)
  have hi := image_run b rs.length ep (by omega) (by omega) hep
  have hm : (rs.length : Int) % 4294967296 = rs.length := by omega
  generalize imageB b rs.length ep = W at *
  have a1 : (du.length : Int) - next < 1000000000000000 := by omega
  have a2 : -1000000000000000 < (du.length : Int) - next := by omega
  have a3 : (du.length : Int) - next < W.length := by omega
  simp [jouA, dskB] at hv hi
  simp [runFun_eq, jouA, dskB, hv, hi, a1, a2, a3, hm]

theorem append_crash (v vr : Nat) (rs : List (List UInt8)) (du : List (List UInt8)) (jcr jop cr op : Int) (next ep : Nat) (b : List UInt8) (h : ¬ cr = jcr) :
    KJ 13 [.ref (0, 0) 0, .dat (Bs b)] [jouA (.rsl (0, 2) vr 1 0 rs.length) next ep jcr jop, dskB (.rsl (0, 3) v 1 0 du.length) .nils cr op, .arr 1 vr false (rs.map Bs), .arr 1 v false (du.map Bs)] =
      some (.dat (.int .i64 25), [jouA (.rsl (0, 2) vr 1 0 rs.length) next ep jcr jop, dskB (.rsl (0, 3) v 1 0 du.length) .nils cr op, .arr 1 vr false (rs.map Bs), .arr 1 v false (du.map Bs)]) := by
  refine callT_ev (fn := fn13) rfl rfl ?_
  have hv := jvalid_b (vr := vr) (rs := rs) (next := next) (ep := ep) (jcr := jcr) (jop := jop) (cr := cr) (op := op) (v := v) (du := du)
  simp [jouA, dskB] at hv
  simp [runFun_eq, jouA, dskB, hv, h]

theorem len_run (v vr : Nat) (rs : List (List UInt8)) (du : List (List UInt8)) (jcr jop cr op : Int) (next ep : Nat) :
    KJ 32 [.ref (0, 0) 0] [jouA (.rsl (0, 2) vr 1 0 rs.length) next ep jcr jop, dskB (.rsl (0, 3) v 1 0 du.length) .nils cr op, .arr 1 vr false (rs.map Bs), .arr 1 v false (du.map Bs)] =
      some (.dat (.int .i64 rs.length), [jouA (.rsl (0, 2) vr 1 0 rs.length) next ep jcr jop, dskB (.rsl (0, 3) v 1 0 du.length) .nils cr op, .arr 1 vr false (rs.map Bs), .arr 1 v false (du.map Bs)]) := by
  refine callT_ev (fn := fn32) rfl rfl ?_
  have hv := jvalid_b (vr := vr) (rs := rs) (next := next) (ep := ep) (jcr := jcr) (jop := jop) (cr := cr) (op := op) (v := v) (du := du)
  simp [jouA, dskB] at hv
  simp [runFun_eq, jouA, dskB, hv]

theorem crash_none (v : Nat) (du : List (List UInt8)) (cr op : Int) (h1 : 0 ≤ cr) (h2 : cr < 1000000) : KJ 22 [.ref (0, 0) 0, .dat (.sl [])] (dsk v du cr op .nils []) = some (.dat (.int .i64 0), dsk v du (cr + 1) op .nils []) := by
  refine callT_ev (fn := fn22) rfl rfl ?_
  have hv := valid_run (v := v) (du := du) (cr := cr) (op := op) (.inl ⟨rfl, rfl, rfl⟩)
  have a1 : cr + 1 < 1000000000000000 := by omega
  have a2 : -1000000000000000 < cr + 1 := by omega
  simp [dsk, dskB] at hv
  simp [runFun_eq, dsk, dskB, hv]
  simp only [ev_bnd_iff]
  apply ev_loop
  simp
  simp only [ev_bnd_iff]
  apply ev_loop
  simp [a1, a2]
end Go.Am

/- Walks: the reference's disk. -/
set_option linter.unusedVariables false
set_option linter.unusedSimpArgs false
set_option maxRecDepth 10000
namespace Go.Am
open Go.Proofs

/-! ### what is not made -/
theorem valid_nil : KJ 34 [.nilp] [] = some (.dat (.bool false), []) := callT_ev (fn := fn34) rfl rfl (by simp [runFun_eq])
theorem read_nil (i : Int) : KJ 24 [.nilp, .dat (.int .i64 i)] [] = some (.tup [.dat (.sl []), .dat (.int .i64 23)], []) := callT_ev (fn := fn24) rfl rfl (by simp [runFun_eq, valid_nil])
theorem write_nil (i : Int) (b : List Dat) : KJ 15 [.nilp, .dat (.int .i64 i), .dat (.sl b)] [] = some (.dat (.int .i64 23), []) := callT_ev (fn := fn15) rfl rfl (by simp [runFun_eq, valid_nil])
theorem sync_nil : KJ 16 [.nilp] [] = some (.dat (.int .i64 23), []) := callT_ev (fn := fn16) rfl rfl (by simp [runFun_eq, valid_nil])
theorem crash_nil (b : List Dat) : KJ 22 [.nilp, .dat (.sl b)] [] = some (.dat (.int .i64 23), []) := callT_ev (fn := fn22) rfl rfl (by simp [runFun_eq, valid_nil])
theorem pending_nil : KJ 26 [.nilp] [] = some (.dat (.int .i64 0), []) := callT_ev (fn := fn26) rfl rfl (by simp [runFun_eq, valid_nil])
theorem rread_nil (i : Int) : KJ 25 [.nilp, .dat (.int .i64 i)] [] = some (.tup [.dat (.sl []), .dat (.int .i64 23)], []) := callT_ev (fn := fn25) rfl rfl (by simp [runFun_eq])
theorem rwrite_nil (i : Int) (b : List Dat) : KJ 20 [.nilp, .dat (.int .i64 i), .dat (.sl b)] [] = some (.dat (.int .i64 23), []) := callT_ev (fn := fn20) rfl rfl (by simp [runFun_eq])
theorem rsync_nil : KJ 21 [.nilp] [] = some (.dat (.int .i64 23), []) := callT_ev (fn := fn21) rfl rfl (by simp [runFun_eq])
theorem rcrash_nil (b : List Dat) : KJ 23 [.nilp, .dat (.sl b)] [] = some (.dat (.int .i64 23), []) := callT_ev (fn := fn23) rfl rfl (by simp [runFun_eq])
theorem rpending_nil : KJ 27 [.nilp] [] = some (.dat (.int .i64 0), []) := callT_ev (fn := fn27) rfl rfl (by simp [runFun_eq])
theorem newDisk_out {n : Int} (h : n < 1 ∨ 4096 < n) : KJ 9 [.dat (.int .i64 n)] [] = some (.tup [.nilp, .dat (.int .i64 2)], []) := by
  refine callT_ev (fn := fn9) rfl rfl ?_
  by_cases h1 : n < 1
  · simp [runFun_eq, h1]
  · have h2 : 4096 < n := by omega
    simp [runFun_eq, h1, h2]
theorem rnewDisk_out {n : Int} (h : n < 1 ∨ 4096 < n) : KJ 18 [.dat (.int .i64 n)] [] = some (.tup [.nilp, .dat (.int .i64 2)], []) := by
  refine callT_ev (fn := fn18) rfl rfl ?_
  by_cases h1 : n < 1
  · simp [runFun_eq, h1]
  · have h2 : 4096 < n := by omega
    simp [runFun_eq, h1, h2]

theorem rnd_loop (n : Nat) (hn : n ≤ 4096) : ∀ (m j v : Nat) (s : St), j + m = n → 1 ≤ j →
    hd [0, 4, 5] [4] s = some ⟨[(0, .dat (.int .i64 n)), (4, .ref (5, 0) 0), (5, .dat (.int .i64 j))], [((5, 0), dskB (.rsl (5, 1) v 1 0 j) .nils 0 0), ((5, 1), .arr 1 v false ((List.replicate j zeroS).map Bs))]⟩ →
    Ev (loopLim (exec KJ l18_0) s) (ndPost n) := by
  intro m
  induction m with
  | zero =>
    intro j v s hj h1 hs
    apply ev_loop
    have : j = n := by omega
    subst this
    simp [hs, ndPost, dskB]
  | succ m ih =>
    intro j v s hj h1 hs
    apply ev_loop
    have hlt : j < n := by omega
    have hx : Ix j := by unfold Ix; omega
    have hr : (j + 1) * 25 ≤ 1099511627776 := by omega
    generalize hQ : ndPost n = Q
    simp [hs, dskB, hlt, hx, hr, -List.reduceReplicate]
    rw [← hQ]
    refine Ev.mono (ih (j + 1) (v + 1) _ (by omega) (by omega) ?_) (fun _ h => h)
    simp [dskB, -List.reduceReplicate, List.replicate_succ', zeroS]

theorem rnewDisk_run (n : Nat) (h1 : 1 ≤ n) (h2 : n ≤ 4096) : ∃ v, KJ 18 [.dat (.int .i64 n)] [] = some (.tup [.ref (0, 0) 0, .dat (.int .i64 0)], dsk v (List.replicate n zeroS) 0 0 .nils []) := by
  have h3 : ¬ (n : Int) < 1 := by omega
  have h3' : ¬ n < 1 := by omega
  have h4 : ¬ (4096 : Int) < n := by omega
  have h5 : 0 < n := by omega
  have key : Ev (runFun KJ fn18 [.dat (.int .i64 n)] []) fun r => ∃ v, r = (.tup [.ref (0, 0) 0, .dat (.int .i64 0)], dsk v (List.replicate n zeroS) 0 0 .nils []) := by
    simp [runFun_eq, h3, h4, h5]
    simp only [ev_bnd_iff]
    apply ev_loop
    generalize hQ : ndPost n = Q
    simp [h5, -List.reduceReplicate]
    refine Ev.mono (rnd_loop n h2 (n - 1) 1 0 _ (by omega) (by omega) (by simp [dskB, zeroS, -List.reduceReplicate])) ?_
    rintro ⟨_, s⟩ ⟨rfl, v, hs⟩
    simp at hs
    simp [hs, dskB, dsk]
  obtain ⟨r, hr, v, rfl⟩ := key
  exact ⟨v, callT_ev (fn := fn18) rfl rfl ⟨_, hr, rfl⟩⟩

section
variable {v : Nat} {du : List (List UInt8)} {pe : List (Int × List UInt8)} {cr op : Int} {pv : AVal} {po : List Obj}

theorem pending_run (hp : Pend pe pv po) : KJ 26 [.ref (0, 0) 0] (dsk v du cr op pv po) = some (.dat (.int .i64 pe.length), dsk v du cr op pv po) := by
  refine callT_ev (fn := fn26) rfl rfl ?_
  have hv := valid_run (v := v) (du := du) (cr := cr) (op := op) hp
  rcases hp with ⟨rfl, rfl, rfl⟩ | ⟨v2, rfl, rfl⟩ <;> simp [dsk, dskB] at hv <;> simp [runFun_eq, dsk, dskB, hv]
theorem rpending_run (hp : Pend pe pv po) : KJ 27 [.ref (0, 0) 0] (dsk v du cr op pv po) = some (.dat (.int .i64 pe.length), dsk v du cr op pv po) := by
  refine callT_ev (fn := fn27) rfl rfl ?_
  rcases hp with ⟨rfl, rfl, rfl⟩ | ⟨v2, rfl, rfl⟩ <;> simp [runFun_eq, dsk, dskB]

/-- a write that is refused -/
theorem write_bad (hp : Pend pe pv po) {i : Int} {b : List UInt8} (h : i < 0 ∨ (du.length : Int) ≤ i ∨ b.length ≠ 64) :
    ∃ e, KJ 15 [.ref (0, 0) 0, .dat (.int .i64 i), .dat (.sl (b.map B))] (dsk v du cr op pv po) = some (.dat (.int .i64 e), dsk v du cr op pv po) ∧
      e = if i < 0 ∨ (du.length : Int) ≤ i then 2 else 1 := by
  refine ⟨_, callT_ev (fn := fn15) rfl rfl ?_, rfl⟩
  have hv := valid_run (v := v) (du := du) (cr := cr) (op := op) hp
  by_cases h1 : i < 0
  · rcases hp with ⟨rfl, rfl, rfl⟩ | ⟨v2, rfl, rfl⟩ <;> simp [dsk, dskB] at hv <;> simp [runFun_eq, dsk, dskB, hv, h1]
  · by_cases h2 : (du.length : Int) ≤ i
    · rcases hp with ⟨rfl, rfl, rfl⟩ | ⟨v2, rfl, rfl⟩ <;> simp [dsk, dskB] at hv <;> simp [runFun_eq, dsk, dskB, hv, h1, h2]
    · have h3 : ¬ b.length = 64 := by omega
      have h4 : ¬ (b.length : Int) = 64 := by omega
      rcases hp with ⟨rfl, rfl, rfl⟩ | ⟨v2, rfl, rfl⟩ <;> simp [dsk, dskB] at hv <;> simp [runFun_eq, dsk, dskB, hv, h1, h2, h3, h4]
theorem rwrite_bad (hp : Pend pe pv po) {i : Int} {b : List UInt8} (h : i < 0 ∨ (du.length : Int) ≤ i ∨ b.length ≠ 64) :
    ∃ e, KJ 20 [.ref (0, 0) 0, .dat (.int .i64 i), .dat (.sl (b.map B))] (dsk v du cr op pv po) = some (.dat (.int .i64 e), dsk v du cr op pv po) ∧
      e = if i < 0 ∨ (du.length : Int) ≤ i then 2 else 1 := by
  refine ⟨_, callT_ev (fn := fn20) rfl rfl ?_, rfl⟩
  by_cases h1 : i < 0
  · rcases hp with ⟨rfl, rfl, rfl⟩ | ⟨v2, rfl, rfl⟩ <;> simp [runFun_eq, dsk, dskB, h1]
  · by_cases h2 : (du.length : Int) ≤ i
    · rcases hp with ⟨rfl, rfl, rfl⟩ | ⟨v2, rfl, rfl⟩ <;> simp [runFun_eq, dsk, dskB, h1, h2]
    · have h3 : ¬ b.length = 64 := by omega
      have h4 : ¬ (b.length : Int) = 64 := by omega
      rcases hp with ⟨rfl, rfl, rfl⟩ | ⟨v2, rfl, rfl⟩ <;> simp [runFun_eq, dsk, dskB, h1, h2, h3, h4]

theorem rwrite_run (hp : Pend pe pv po) (hl : pe.length < 1000000000) {i : Nat} (hi : i < du.length) {b : List UInt8} (hb : b.length = 64) :
    ∃ v2, KJ 20 [.ref (0, 0) 0, .dat (.int .i64 i), .dat (.sl (b.map B))] (dsk v du cr op pv po) = some (.dat (.int .i64 0), dsk v du cr op (.rsl (0, 2) v2 2 0 (pe.length + 1)) [.arr 2 v2 false ((pe ++ [((i : Int), b)]).map pnd)]) := by
  have hge : ¬ du.length ≤ i := by omega
  have hbn : ¬ b = [] := by rintro rfl; simp at hb
  rcases hp with ⟨rfl, rfl, rfl⟩ | ⟨v2, rfl, rfl⟩
  · refine ⟨0, callT_ev (fn := fn20) rfl rfl ?_⟩
    simp [runFun_eq, dsk, dskB, hi, hge, hb, hbn]
  · refine ⟨v2 + 1, callT_ev (fn := fn20) rfl rfl ?_⟩
    have hr : (pe.length + 1) * 33 ≤ 1099511627776 := by omega
    simp [runFun_eq, dsk, dskB, hi, hge, hb, hbn, hr]
end
end Go.Am

/- Walks: the reference's disk, read and synchronised. -/
set_option linter.unusedVariables false
set_option linter.unusedSimpArgs false
set_option maxRecDepth 10000
namespace Go.Am
open Go.Proofs

theorem rsync_loop (v v2 n : Nat) (cr op : Int) : ∀ (rest pre : List (Int × List UInt8)) (s : St) (du : List (List UInt8)), (∀ w ∈ rest, 0 ≤ w.1 ∧ w.1 < n) → pre.length + rest.length < 1000000000 → du.length = n →
    hd [0, 3] [] s = some ⟨[(0, .ref (0,0) 0), (3, .dat (.int .i64 pre.length))], [((0,0), dskB (.rsl (0, 1) v 1 0 n) (.rsl (0, 2) v2 2 0 (pre ++ rest).length) cr op), ((0,1), .arr 1 v false (du.map Bs)), ((0,2), .arr 2 v2 false ((pre ++ rest).map pnd))]⟩ →
    Ev (loopLim (exec KJ l21_0) s) (syncPost v v2 n (syncS rest du) cr op (pre ++ rest)) := by
  intro rest
  induction rest with
  | nil =>
    intro pre s du h hi hl hs
    apply ev_loop
    simp [hs, syncS, syncPost, dskB]
  | cons w rest ih =>
    intro pre s du h hi hl hs
    apply ev_loop
    rw [List.length_cons] at hi
    obtain ⟨h1, h2⟩ := h w (by simp)
    have hx : Ix pre.length := by unfold Ix; omega
    obtain ⟨d, hd, hd'⟩ := get_at' du (i := w.1.toNat) (by omega)
    have e1 : pre ++ w :: rest = (pre ++ [w]) ++ rest := by simp
    rw [show syncS (w :: rest) du = syncS rest (du.set w.1.toNat w.2) from rfl]
    generalize hQ : syncPost v v2 n (syncS rest (du.set w.1.toNat w.2)) cr op (pre ++ w :: rest) = Q
    simp [hs, dskB, hx, h1, h2, hd, hd', hl]
    rw [← hQ, e1]
    refine Ev.mono (ih (pre ++ [w]) _ (du.set w.1.toNat w.2) (fun w h' => h w (by simp [h'])) (by simp; omega) (by simp [hl]) (by simp [dskB])) (fun _ h => h)

theorem rsync_run (v v2 : Nat) (du : List (List UInt8)) (cr op : Int) (pe : List (Int × List UInt8)) (h : ∀ w ∈ pe, 0 ≤ w.1 ∧ w.1 < du.length) (hl : pe.length < 1000000000) :
    KJ 21 [.ref (0, 0) 0] (dsk v du cr op (.rsl (0, 2) v2 2 0 pe.length) [.arr 2 v2 false (pe.map pnd)]) = some (.dat (.int .i64 0), dsk v (syncS pe du) cr op .nils [.arr 2 v2 false (pe.map pnd)]) := by
  refine callT_ev (fn := fn21) rfl rfl ?_
  simp [runFun_eq, dsk, dskB]
  simp only [ev_bnd_iff]
  refine Ev.mono (rsync_loop v v2 du.length cr op pe [] _ du h (by simpa using hl) rfl (by simp [dskB])) ?_
  rintro ⟨_, s⟩ ⟨rfl, hs⟩
  simp at hs
  simp [hs, dskB, syncS_len]

theorem rsync_none (v : Nat) (du : List (List UInt8)) (cr op : Int) : KJ 21 [.ref (0, 0) 0] (dsk v du cr op .nils []) = some (.dat (.int .i64 0), dsk v du cr op .nils []) := by
  refine callT_ev (fn := fn21) rfl rfl ?_
  simp [runFun_eq, dsk, dskB]
  simp only [ev_bnd_iff]
  apply ev_loop
  simp

def rrdPost (v v2 : Nat) (du : List (List UInt8)) (cr op : Int) (pe : List (Int × List UInt8)) (b : List UInt8) (q : AEx × St) : Prop := q.1 = .exit 0 ∧ ∃ v',
  hd [6] [] q.2 = some ⟨[(6, .rsl (7, 0) v' 1 0 b.length)], [((0,0), dskB (.rsl (0, 1) v 1 0 du.length) (.rsl (0, 2) v2 2 0 pe.length) cr op), ((0,1), .arr 1 v false (du.map Bs)), ((0,2), .arr 2 v2 false (pe.map pnd)), ((7, 0), .arr 1 v' false (b.map B))]⟩

theorem rrd_loop (v v2 : Nat) (du : List (List UInt8)) (cr op : Int) (i : Nat) : ∀ (rest pre : List (Int × List UInt8)) (v' : Nat) (b : List UInt8) (s : St), pre.length + rest.length < 1000000000 → (∀ w ∈ rest, w.2.length = 64) →
    hd [0, 1, 6, 7] [0, 6] s = some ⟨[(0, .ref (0,0) 0), (1, .dat (.int .i64 i)), (6, .rsl (7, 0) v' 1 0 b.length), (7, .dat (.int .i64 pre.length))], [((0,0), dskB (.rsl (0, 1) v 1 0 du.length) (.rsl (0, 2) v2 2 0 (pre ++ rest).length) cr op), ((0,1), .arr 1 v false (du.map Bs)), ((0,2), .arr 2 v2 false ((pre ++ rest).map pnd)), ((7, 0), .arr 1 v' false (b.map B))]⟩ →
    Ev (loopLim (exec KJ l25_0) s) (rrdPost v v2 du cr op (pre ++ rest) ((lastW rest i).getD b)) := by
  intro rest
  induction rest with
  | nil =>
    intro pre v' b s hl h64 hs
    apply ev_loop
    simp [hs, dskB]
    exact ⟨rfl, v', by simp [dskB, lastW]⟩
  | cons w rest ih =>
    intro pre v' b s hl h64 hs
    apply ev_loop
    rw [List.length_cons] at hl
    have hx : Ix pre.length := by unfold Ix; omega
    have hw := h64 w (by simp)
    have hwn : ¬ w.2 = [] := by intro h; rw [h] at hw; simp at hw
    have e1 : pre ++ w :: rest = (pre ++ [w]) ++ rest := by simp
    by_cases hwi : w.1 = i
    · have e2 : (lastW (w :: rest) i).getD b = (lastW rest i).getD w.2 := by
        simp only [lastW]
        cases lastW rest i <;> simp [hwi]
      rw [e2, e1]
      have ih2 := ih (pre ++ [w])
      generalize hQ : rrdPost v v2 du cr op (pre ++ [w] ++ rest) ((lastW rest i).getD w.2) = Q
      simp [hs, dskB, hx, hwi, hwn, hw]
      rw [← hQ]
      refine Ev.mono (ih2 1 w.2 _ (by simp; omega) (fun x hx => h64 x (by simp [hx])) (by simp [dskB, hw, hwi])) (fun _ h => h)
    · have e2 : (lastW (w :: rest) i).getD b = (lastW rest i).getD b := by
        simp only [lastW]
        cases lastW rest i <;> simp [hwi]
      rw [e2, e1]
      have ih2 := ih (pre ++ [w])
      generalize hQ : rrdPost v v2 du cr op (pre ++ [w] ++ rest) ((lastW rest i).getD b) = Q
      simp [hs, dskB, hx, hwi]
      rw [← hQ]
      refine Ev.mono (ih2 v' b _ (by simp; omega) (fun x hx => h64 x (by simp [hx])) (by simp [dskB])) (fun _ h => h)

theorem rread_run {v : Nat} {du : List (List UInt8)} {pe : List (Int × List UInt8)} {cr op : Int} {pv : AVal} {po : List Obj} (hp : Pend pe pv po) (hl : pe.length < 1000000000) (h1 : ∀ d ∈ du, d.length = 64) (h2 : ∀ w ∈ pe, w.2.length = 64) {i : Nat} (hi : i < du.length) :
    KJ 25 [.ref (0, 0) 0, .dat (.int .i64 i)] (dsk v du cr op pv po) = some (.tup [.dat (Bs (cont du pe i)), .dat (.int .i64 0)], dsk v du cr op pv po) := by
  refine callT_ev (fn := fn25) rfl rfl ?_
  have hge : ¬ du.length ≤ i := by omega
  obtain ⟨d, hd, hd'⟩ := get_at' du hi
  have h64 := h1 d (List.mem_of_getElem? hd)
  have hn : ¬ d = [] := by rintro rfl; simp at h64
  have hgd : du.getD i [] = d := by rw [List.getD_eq_getElem?_getD, hd]; rfl
  rcases hp with ⟨rfl, rfl, rfl⟩ | ⟨v2, rfl, rfl⟩
  · simp [runFun_eq, dsk, dskB, hi, hge, hd, hd', h64, hn]
    simp only [ev_bnd_iff]
    apply ev_loop
    simp [cont, lastW, hd, hd', h64]
  · have hc : cont du pe i = (lastW pe i).getD d := by rw [cont, hgd]
    simp [runFun_eq, dsk, dskB, hi, hge, hd, hd', h64, hn]
    simp only [ev_bnd_iff]
    refine Ev.mono (rrd_loop v v2 du cr op i pe [] _ d _ (by simpa using hl) h2 (by simp [dskB, h64]; rfl)) ?_
    rintro ⟨_, s⟩ ⟨rfl, v', hs⟩
    rw [List.nil_append, ← hc] at hs
    simp at hs
    simp [hs, dskB]

theorem rread_out {v : Nat} {du : List (List UInt8)} {pe : List (Int × List UInt8)} {cr op : Int} {pv : AVal} {po : List Obj} (hp : Pend pe pv po) {i : Int} (hi : i < 0 ∨ (du.length : Int) ≤ i) :
    KJ 25 [.ref (0, 0) 0, .dat (.int .i64 i)] (dsk v du cr op pv po) = some (.tup [.dat (.sl []), .dat (.int .i64 2)], dsk v du cr op pv po) := by
  refine callT_ev (fn := fn25) rfl rfl ?_
  by_cases h : i < 0
  · rcases hp with ⟨rfl, rfl, rfl⟩ | ⟨v2, rfl, rfl⟩ <;> simp [runFun_eq, dsk, dskB, h]
  · have h' : (du.length : Int) ≤ i := by omega
    rcases hp with ⟨rfl, rfl, rfl⟩ | ⟨v2, rfl, rfl⟩ <;> simp [runFun_eq, dsk, dskB, h, h']

theorem sector_run (b : List UInt8) (hb : b.length < 1000000) : KJ 19 [.dat (.sl (b.map B))] [] = some (.dat (.sl ((b.take 64 ++ List.replicate (64 - b.length) 0).map B)), []) := by
  refine callT_ev (fn := fn19) rfl rfl ?_
  have e : min 64 b.length ≤ 64 := by omega
  have e2 : min 64 b.length + (64 - min 64 b.length) = 64 := by omega
  have e3 : 64 - min 64 b.length = 64 - b.length := by omega
  have e4 : 64 ≤ min 64 b.length + (64 - b.length) := by omega
  have e5 : min 64 b.length + (64 - b.length) ≤ 64 := by omega
  simp [runFun_eq, -List.reduceReplicate, -List.map_take, take_map, drop_none, e2, e3, e4, e5]
end Go.Am

/- Walks of the reference: a journal, opened. -/
set_option linter.unusedVariables false
set_option linter.unusedSimpArgs false
set_option maxRecDepth 10000
namespace Go.Am
open Go.Proofs

def rcpyPost (v : Nat) (rs : List (List UInt8)) (q : AEx × St) : Prop := q.1 = .exit 0 ∧ ∃ v',
  hd [3] [] q.2 = some ⟨[(3, .rsl (4, 0) v' 1 0 rs.length)], [((0, 0), .arr 1 v false (rs.map Bs)), ((4, 0), .arr 1 v' false (rs.map Bs))]⟩

theorem rcpy_loop (v : Nat) : ∀ (rest pre : List (List UInt8)) (v' : Nat) (s : St), pre.length + rest.length < 1000000 → (∀ d ∈ rest, d.length < 10000000) →
    hd [0, 3, 4] [0, 3] s = some ⟨[(0, .rsl (0, 0) v 1 0 (pre ++ rest).length), (3, .rsl (4, 0) v' 1 0 pre.length), (4, .dat (.int .i64 pre.length))], [((0, 0), .arr 1 v false ((pre ++ rest).map Bs)), ((4, 0), .arr 1 v' false (pre.map Bs))]⟩ →
    Ev (loopLim (exec KJ l43_0) s) (rcpyPost v (pre ++ rest)) := by
  intro rest
  induction rest with
  | nil =>
    intro pre v' s hl hb hs
    apply ev_loop
    simp [hs, rcpyPost]
  | cons x rest ih =>
    intro pre v' s hl hb hs
    apply ev_loop
    rw [List.length_cons] at hl
    have hx : Ix pre.length := by unfold Ix; omega
    have hxl := hb x (by simp)
    have hr : (pre.length + 1) * 25 ≤ 1099511627776 := by omega
    have hr2 : x.length * 2 ≤ 1099511627776 := by omega
    have e1 : pre ++ x :: rest = (pre ++ [x]) ++ rest := by simp
    have ih2 := ih (pre ++ [x]) (v' + 1)
    rw [e1]
    generalize hQ : rcpyPost v _ = Q at ih2 ⊢
    by_cases hxn : x = []
    · subst hxn
      simp [hs, hx, hr, hr2]
      exact Ev.mono (ih2 _ (by simp; omega) (fun d hd => hb d (by simp [hd])) (by simp)) (fun _ h => h)
    · simp [hs, hx, hr, hr2, hxn]
      exact Ev.mono (ih2 _ (by simp; omega) (fun d hd => hb d (by simp [hd])) (by simp)) (fun _ h => h)

theorem rcopies_run (v : Nat) (rs : List (List UInt8)) (hl : rs.length < 1000000) (hb : ∀ d ∈ rs, d.length < 10000000) :
    KJ 43 [.rsl (0, 0) v 1 0 rs.length] [.arr 1 v false (rs.map Bs)] = some (.dat (.sl (rs.map Bs)), [.arr 1 v false (rs.map Bs)]) := by
  refine callT_ev (fn := fn43) rfl rfl ?_
  simp [runFun_eq]
  simp only [ev_bnd_iff]
  refine Ev.mono (rcpy_loop v rs [] 0 _ (by simpa using hl) hb (by simp)) ?_
  rintro ⟨_, s⟩ ⟨rfl, v', hs⟩
  simp at hs
  simp [hs]
theorem rcopies_nil : KJ 43 [.nils] [] = some (.dat (.sl []), []) := by
  refine callT_ev (fn := fn43) rfl rfl ?_
  simp [runFun_eq]
  simp only [ev_bnd_iff]
  apply ev_loop
  simp

def rmstPost (v : Nat) (du : List (List UInt8)) (cr op : Int) (pv : AVal) (po : List Obj) (all : List (List UInt8)) (m : Nat) (q : AEx × St) : Prop := q.1 = .exit 0 ∧ ∃ v',
  hd [0, 5, 6] [] q.2 = some ⟨[(0, .ref (0, 0) 0), (5, .rsl (6, 0) v' 1 0 all.length), (6, .dat (.int .i64 m))], dst v du cr op pv po ++ [((6, 0), .arr 1 v' false (all.map Bs))]⟩

theorem rmst_loop {v : Nat} {du : List (List UInt8)} {pe : List (Int × List UInt8)} {cr op : Int} {pv : AVal} {po : List Obj} (hp : Pend pe pv po) (hl : pe.length < 1000000000) (h64 : ∀ d ∈ du, d.length = 64) (h64' : ∀ w ∈ pe, w.2.length = 64) (hdl : du.length ≤ 4096) :
    ∀ (n i m v' : Nat) (out : List (List UInt8)) (s : St), i + n = du.length → m < 4294967296 → out = (allC du pe).take i → 
    hd [0, 5, 6, 7] [0, 5] s = some ⟨[(0, .ref (0, 0) 0), (5, .rsl (6, 0) v' 1 0 out.length), (6, .dat (.int .i64 m)), (7, .dat (.int .i64 i))], dst v du cr op pv po ++ [((6, 0), .arr 1 v' false (out.map Bs))]⟩ →
    Ev (loopLim (exec KJ l28_0) s) (rmstPost v du cr op pv po (allC du pe) (mostB ((allC du pe).drop i) m)) := by
  intro n
  induction n with
  | zero =>
    intro i m v' out s hi hm ho hs
    apply ev_loop
    have h0 : (allC du pe).drop i = [] := List.drop_of_length_le (by rw [allC_len]; omega)
    have h1 : (allC du pe).take i = allC du pe := List.take_of_length_le (by rw [allC_len]; omega)
    rw [h1] at ho
    have hi' : i = du.length := by omega
    subst hi'
    rw [h0]
    subst ho
    generalize allC du pe = A at *
    rcases hp with ⟨rfl, rfl, rfl⟩ | ⟨v2, rfl, rfl⟩ <;> simp [hs, rmstPost, dst, dskB, mostB]
  | succ n ih =>
    intro i m v' out s hi hm ho hs
    apply ev_loop
    have hlt : i < du.length := by omega
    have hx : Ix i := by unfold Ix; omega
    have hc := rread_run (v := v) (cr := cr) (op := op) hp hl h64 h64' hlt
    have hlen := cont_len h64 h64' hlt
    have hnum := rnumber4_run ((cont du pe i).take 4) (by simp [hlen])
    rw [num4_take] at hnum
    have hnl := num4_lt (cont du pe i)
    have hdr : (allC du pe).drop i = cont du pe i :: (allC du pe).drop (i + 1) := by
      have := allC_get du pe hlt
      rw [List.drop_eq_getElem_cons (by rw [allC_len]; exact hlt)]
      rw [List.getElem?_eq_getElem (by rw [allC_len]; exact hlt)] at this
      rw [Option.some.inj this]
    have htk : out ++ [cont du pe i] = (allC du pe).take (i + 1) := by
      rw [List.take_add_one, ← ho, allC_get du pe hlt]; rfl
    have hol : out.length ≤ 4096 := by rw [ho]; simp [allC_len]; omega
    have hr : (out.length + 1) * 25 ≤ 1099511627776 := by omega
    rw [hdr, mostB]
    have ih2 := ih (i + 1) (if m < num4 (cont du pe i) then num4 (cont du pe i) else m) (v' + 1) (out ++ [cont du pe i])
    generalize hQ : rmstPost v du cr op pv po _ _ = Q at ih2 ⊢
    generalize hX : cont du pe i = X at *
    by_cases hgt : m < num4 X
    · have hgt' : (num4 X : Int) > m := by omega
      rcases hp with ⟨rfl, rfl, rfl⟩ | ⟨v2, rfl, rfl⟩ <;> simp [dsk, dskB] at hc
      all_goals
        simp [hs, dst, dskB, hlt, hx, hc, hnum, hgt, hlen, hr, -List.map_take, -List.map_drop, take_map, drop_map]
        refine Ev.mono (ih2 _ (by omega) (by split <;> omega) htk (by simp [dst, dskB, hgt])) (fun _ h => h)
    · have hgt' : ¬ (num4 X : Int) > m := by omega
      rcases hp with ⟨rfl, rfl, rfl⟩ | ⟨v2, rfl, rfl⟩ <;> simp [dsk, dskB] at hc
      all_goals
        simp [hs, dst, dskB, hlt, hx, hc, hnum, hgt, hlen, hr, -List.map_take, -List.map_drop, take_map, drop_map]
        refine Ev.mono (ih2 _ (by omega) (by split <;> omega) htk (by simp [dst, dskB, hgt])) (fun _ h => h)

/-- a journal of the reference -/
def jouR (recs : AVal) (next : Nat) (ep : Nat) (cr op : Int) : Obj := .box [.ref (0, 0) 0, recs, .dat (.int .i64 next), .dat (.int .i64 ep), .dat (.int .i64 cr), .dat (.int .i64 op)]

def RecR (rs : List (List UInt8)) (rv : AVal) (ro : Store) : Prop := (rs = [] ∧ rv = .nils ∧ ro = []) ∨ ∃ vr, rv = .rsl (11, 2) vr 1 0 rs.length ∧ ro = [((11, 2), .arr 1 vr false (rs.map Bs))]

def ropnPost (v : Nat) (du : List (List UInt8)) (cr op : Int) (pv : AVal) (po : List Obj) (all : List (List UInt8)) (ep : Nat) (rs : List (List UInt8)) (e : Nat) (q : AEx × St) : Prop := q.1 = .exit 2 ∧ ∃ rv ro va fz, RecR rs rv ro ∧
  hd [0, 10] [] q.2 = some ⟨[(0, .ref (0, 0) 0), (10, .ref (11, 0) 0)], dst v du cr op pv po ++ [((6, 0), .arr 1 va fz (all.map Bs)), ((11, 0), jouR rv e ep 0 0)] ++ ro⟩

theorem ropn_loop {v : Nat} {du : List (List UInt8)} {pe : List (Int × List UInt8)} {cr op : Int} {pv : AVal} {po : List Obj} (hp : Pend pe pv po) {all : List (List UInt8)} (h64 : ∀ d ∈ all, d.length = 64) (hdl : all.length ≤ 4096) (ep va : Nat) :
    ∀ (f at' : Nat) (rs : List (List UInt8)) (rv : AVal) (ro : Store) (fz : Bool) (s : St), all.length + 1 ≤ f + at' → at' ≤ all.length → rs.length ≤ at' → RecR rs rv ro →
    hd [0, 5, 10] [0, 5, 10] s = some ⟨[(0, .ref (0, 0) 0), (5, .rsl (6, 0) va 1 0 all.length), (10, .ref (11, 0) 0)], dst v du cr op pv po ++ [((6, 0), .arr 1 va fz (all.map Bs)), ((11, 0), jouR rv at' ep 0 0)] ++ ro⟩ →
    Ev (loopLim (exec KJ l28_1) s) (ropnPost v du cr op pv po all ep (rs ++ (scanB f all at' rs.length).1) (scanB f all at' rs.length).2) := by
  intro f
  induction f with
  | zero => intro at' rs rv ro fz s hf ha; omega
  | succ f ih =>
    intro at' rs rv ro fz s hf ha hrs hr hs
    apply ev_loop
    have hrec := rrecord_run h64 hdl at' rs.length (by omega) (by omega)
    cases hR : recB all at' rs.length with
    | none =>
      rw [hR] at hrec
      have hsc : scanB (f + 1) all at' rs.length = ([], at') := by simp [scanB, hR]
      rw [hsc]
      simp only [rrecV] at hrec
      rcases hp with ⟨rfl, rfl, rfl⟩ | ⟨v2, rfl, rfl⟩ <;> rcases hr with ⟨rfl, rfl, rfl⟩ | ⟨vr, rfl, rfl⟩
      all_goals
        simp [hs, dst, dskB, jouR] at hrec ⊢
        simp [hs, dst, dskB, jouR, hrec]
        refine ⟨rfl, _, _, va, true, ?_, by simp [dst, dskB, jouR]; first | rfl | exact ⟨rfl, rfl⟩⟩
        first
        | exact .inl ⟨rfl, rfl, rfl⟩
        | exact .inr ⟨vr, rfl, rfl⟩
    | some pk =>
      obtain ⟨p, k⟩ := pk
      rw [hR] at hrec
      obtain ⟨r1, r2, r3, r4⟩ := recB_some hR
      have hsc : scanB (f + 1) all at' rs.length = (p :: (scanB f all (at' + k) (rs.length + 1)).1, (scanB f all (at' + k) (rs.length + 1)).2) := by simp [scanB, hR]
      rw [hsc]
      have hr1 : (rs.length + 1) * 25 ≤ 1099511627776 := by omega
      have hk0 : ¬ k = 0 := by omega
      have hn1 : (at' : Int) + k < 1000000000000000 := by omega
      have hn2 : -1000000000000000 < (at' : Int) + k := by omega
      have e1 : rs ++ p :: (scanB f all (at' + k) (rs.length + 1)).1 = (rs ++ [p]) ++ (scanB f all (at' + k) (rs ++ [p]).length).1 := by simp
      have e2 : (scanB f all (at' + k) (rs.length + 1)).2 = (scanB f all (at' + k) (rs ++ [p]).length).2 := by simp
      dsimp only
      rw [e1, e2]
      have ih2 := ih (at' + k) (rs ++ [p])
      generalize hQ : ropnPost v du cr op pv po all ep _ _ = Q at ih2 ⊢
      simp only [rrecV] at hrec
      rcases hp with ⟨rfl, rfl, rfl⟩ | ⟨v2, rfl, rfl⟩ <;> rcases hr with ⟨rfl, rfl, rfl⟩ | ⟨vr, rfl, rfl⟩
      all_goals
        simp at hrec
        simp [hs, dst, dskB, jouR, hrec, hk0, hr1, hn1, hn2]
        first
        | refine Ev.mono (ih2 _ _ true _ (by omega) (by omega) (by simp; omega) (.inr ⟨vr + 1, rfl, rfl⟩) (by simp [dst, dskB, jouR])) (fun _ h => h)
        | refine Ev.mono (ih2 _ _ true _ (by omega) (by omega) (by simp; omega) (.inr ⟨0, rfl, rfl⟩) (by simp [dst, dskB, jouR])) (fun _ h => h)
end Go.Am

/- Walks of the reference: a journal, opened: the whole function. -/
set_option linter.unusedVariables false
set_option linter.unusedSimpArgs false
set_option maxRecDepth 10000
namespace Go.Am
open Go.Proofs

theorem scan_len {all : List (List UInt8)} : ∀ (f at' n : Nat), at' ≤ all.length → (∀ d ∈ all, d.length = 64) → (scanB f all at' n).1.length ≤ all.length - at' ∧ at' ≤ (scanB f all at' n).2 ∧ (scanB f all at' n).2 ≤ all.length ∧ ∀ d ∈ (scanB f all at' n).1, d.length ≤ 52 * all.length
  | 0, at', n, h, _ => by simp [scanB, h]
  | f + 1, at', n, h, h64 => by
    cases hR : recB all at' n with
    | none => simp [scanB, hR, h]
    | some pk =>
      obtain ⟨p, k⟩ := pk
      obtain ⟨r1, r2, r3, r4⟩ := recB_some hR
      have ih := scan_len f (at' + k) (n + 1) r3 h64
      have hp : p.length ≤ 52 * all.length := by
        have := imageB_len p n (num4 (all.getD at' []))
        rw [r4, List.length_take, List.length_drop] at this
        have h2 : p.length ≤ (sealB p).length := by simp [sealB]; omega
        unfold cntB at this
        omega
      simp only [scanB, hR]
      refine ⟨by simp; omega, by omega, ih.2.2.1, fun d hd => ?_⟩
      rcases List.mem_cons.1 hd with rfl | hd
      · exact hp
      · exact ih.2.2.2 d hd

theorem allC_64 {du : List (List UInt8)} {pe : List (Int × List UInt8)} (h64 : ∀ d ∈ du, d.length = 64) (h64' : ∀ w ∈ pe, w.2.length = 64) : ∀ d ∈ allC du pe, d.length = 64 := by
  intro d hd
  obtain ⟨i, hi, rfl⟩ := List.mem_map.1 hd
  exact cont_len h64 h64' (List.mem_range.1 hi)

theorem ropen_full {v : Nat} {du : List (List UInt8)} {pe : List (Int × List UInt8)} {cr op : Int} {pv : AVal} {po : List Obj} (hp : Pend pe pv po) (hl : pe.length < 1000000000) (h64 : ∀ d ∈ du, d.length = 64) (h64' : ∀ w ∈ pe, w.2.length = 64) (hdl : du.length ≤ 4096)
    (hm : mostB (allC du pe) 0 = 4294967295) : KJ 28 [.ref (0, 0) 0] (dsk v du cr op pv po) = some (.tup [.nilp, .dat (.sl []), .dat (.int .i64 24)], dsk v du cr op pv po) := by
  refine callT_ev (fn := fn28) rfl rfl ?_
  have hlp := fun v' s h => rmst_loop (v := v) (cr := cr) (op := op) hp hl h64 h64' hdl du.length 0 0 v' [] s (by omega) (by omega) (by simp) h
  rw [List.drop_zero, hm] at hlp
  generalize allC du pe = A at *
  rcases hp with ⟨rfl, rfl, rfl⟩ | ⟨v2, rfl, rfl⟩
  all_goals
    simp [runFun_eq, dsk, dskB]
    simp only [ev_bnd_iff]
    refine Ev.mono (hlp 0 _ (by simp [dst, dskB])) ?_
    rintro ⟨_, s⟩ ⟨rfl, v', hs⟩
    dsimp only at hs
    simp [hs, dst, dskB]

theorem ropen28_run {v : Nat} {du : List (List UInt8)} {pe : List (Int × List UInt8)} {cr op : Int} {pv : AVal} {po : List Obj} (hp : Pend pe pv po) (hl : pe.length < 1000000000) (h64 : ∀ d ∈ du, d.length = 64) (h64' : ∀ w ∈ pe, w.2.length = 64) (hdl : du.length ≤ 4096)
    (hop : 0 ≤ op) (hop2 : op < 1000000000) (hm : mostB (allC du pe) 0 ≠ 4294967295) :
    ∃ rv ro, RecO (3 + po.length) (scanB (du.length + 1) (allC du pe) 0 0).1 rv ro ∧
      KJ 28 [.ref (0, 0) 0] (dsk v du cr op pv po) = some (.tup [.ref (0, 2 + po.length) 0, .dat (.sl ((scanB (du.length + 1) (allC du pe) 0 0).1.map Bs)), .dat (.int .i64 0)],
        dsk v du cr (op + 1) pv po ++ [jouR rv (scanB (du.length + 1) (allC du pe) 0 0).2 (mostB (allC du pe) 0 + 1) cr (op + 1)] ++ ro) := by
  have hlp := fun v' s h => rmst_loop (v := v) (cr := cr) (op := op) hp hl h64 h64' hdl du.length 0 0 v' [] s (by omega) (by omega) (by simp) h
  have hA := allC_64 h64 h64'
  have hAl : (allC du pe).length = du.length := allC_len du pe
  have hlp2 := fun ep va fz rv ro s hr h => ropn_loop (v := v) (du := du) (cr := cr) (op := op) hp (all := allC du pe) hA (by omega) ep va (du.length + 1) 0 [] rv ro fz s (by omega) (by omega) (by simp) hr h
  have hml := mostB_lt (allC du pe) 0 (by omega)
  have hsc := scan_len (all := allC du pe) (du.length + 1) 0 0 (by omega) hA
  rw [List.drop_zero] at hlp
  simp only [List.nil_append, List.length_nil] at hlp2
  generalize hM : mostB (allC du pe) 0 = M at *
  generalize hS : scanB (du.length + 1) (allC du pe) 0 0 = S at *
  obtain ⟨rs, en⟩ := S
  dsimp only at *
  have hcp := fun vr => rcopies_run vr rs (by omega) (fun d hd => by have := hsc.2.2.2 d hd; omega)
  have hcn := rcopies_nil
  generalize allC du pe = A at *
  have hm1 : ¬ (M : Int) = 4294967295 := by omega
  have ho1 : op + 1 < 1000000000000000 := by omega
  have ho2 : -1000000000000000 < op + 1 := by omega
  have hm2 : (M : Int) + 1 < 1000000000000000 := by omega
  have hm3 : -1000000000000000 < (M : Int) + 1 := by omega
  have key : Ev (runFun KJ fn28 [.ref (0, 0) 0] (dsk v du cr op pv po)) fun r => ∃ rv ro, RecO (3 + po.length) rs rv ro ∧ r = (.tup [.ref (0, 2 + po.length) 0, .dat (.sl (rs.map Bs)), .dat (.int .i64 0)],
        dsk v du cr (op + 1) pv po ++ [jouR rv en (M + 1) cr (op + 1)] ++ ro) := by
    rcases hp with ⟨rfl, rfl, rfl⟩ | ⟨v2, rfl, rfl⟩
    · generalize hQ : (fun r => ∃ rv ro, RecO (3 + ([] : List Obj).length) rs rv ro ∧ r = (AVal.tup [.ref (0, 2 + ([] : List Obj).length) 0, .dat (.sl (rs.map Bs)), .dat (.int .i64 0)], dsk v du cr (op + 1) .nils [] ++ [jouR rv en (M + 1) cr (op + 1)] ++ ro)) = Q
      simp [runFun_eq, dsk, dskB]
      simp only [ev_bnd_iff]
      refine Ev.mono (hlp 0 _ (by simp [dst, dskB])) ?_
      rintro ⟨_, s⟩ ⟨rfl, v', hs⟩
      dsimp only at hs
      simp [hs, dst, dskB, hm1, hm2, hm3]
      simp only [ev_bnd_iff]
      refine Ev.mono (hlp2 (M + 1) v' false _ _ _ (.inl ⟨rfl, rfl, rfl⟩) (by simp [dst, dskB, jouR])) ?_
      rintro ⟨_, s⟩ ⟨rfl, rv, ro, va, fz, hr, hs⟩
      dsimp only at hs
      rcases hr with ⟨rfl, rfl, rfl⟩ | ⟨vr, rfl, rfl⟩
      · simp [hs, dst, dskB, jouR, ho1, ho2, hcn]
        rw [← hQ]
        exact ⟨.nils, [], .inl ⟨rfl, rfl, rfl⟩, by simp [dsk, dskB, jouR]⟩
      · have hcp := hcp vr
        simp [hs, dst, dskB, jouR, ho1, ho2, hcp]
        rw [← hQ]
        exact ⟨_, _, .inr ⟨vr, rfl, rfl⟩, by simp [dsk, dskB, jouR]⟩
    · generalize hQ : (fun r => ∃ rv ro, RecO (3 + [Obj.arr 2 v2 false (pe.map pnd)].length) rs rv ro ∧ r = (AVal.tup [.ref (0, 2 + [Obj.arr 2 v2 false (pe.map pnd)].length) 0, .dat (.sl (rs.map Bs)), .dat (.int .i64 0)], dsk v du cr (op + 1) (.rsl (0, 2) v2 2 0 pe.length) [Obj.arr 2 v2 false (pe.map pnd)] ++ [jouR rv en (M + 1) cr (op + 1)] ++ ro)) = Q
      simp [runFun_eq, dsk, dskB]
      simp only [ev_bnd_iff]
      refine Ev.mono (hlp 0 _ (by simp [dst, dskB])) ?_
      rintro ⟨_, s⟩ ⟨rfl, v', hs⟩
      dsimp only at hs
      simp [hs, dst, dskB, hm1, hm2, hm3]
      simp only [ev_bnd_iff]
      refine Ev.mono (hlp2 (M + 1) v' false _ _ _ (.inl ⟨rfl, rfl, rfl⟩) (by simp [dst, dskB, jouR])) ?_
      rintro ⟨_, s⟩ ⟨rfl, rv, ro, va, fz, hr, hs⟩
      dsimp only at hs
      rcases hr with ⟨rfl, rfl, rfl⟩ | ⟨vr, rfl, rfl⟩
      · simp [hs, dst, dskB, jouR, ho1, ho2, hcn]
        rw [← hQ]
        exact ⟨.nils, [], .inl ⟨rfl, rfl, rfl⟩, by simp [dsk, dskB, jouR]⟩
      · have hcp := hcp vr
        simp [hs, dst, dskB, jouR, ho1, ho2, hcp]
        rw [← hQ]
        exact ⟨_, _, .inr ⟨vr, rfl, rfl⟩, by simp [dsk, dskB, jouR]⟩
  obtain ⟨r, hr, rv, ro, h1, rfl⟩ := key
  exact ⟨rv, ro, h1, callT_ev (fn := fn28) rfl rfl ⟨_, hr, rfl⟩⟩
end Go.Am

/- Walks: crashes. -/
set_option linter.unusedVariables false
set_option linter.unusedSimpArgs false
set_option maxRecDepth 10000
namespace Go.Am
open Go.Proofs

@[simp] def I64 (k : Int) : Dat := .int .i64 k

/-- the kept writes, made -/
def crashW (keep : List Int) : Nat → List (Int × List UInt8) → List (List UInt8) → List (List UInt8)
  | _, [], du => du
  | k, w :: r, du => crashW keep (k + 1) r (if (k : Int) ∈ keep then du.set w.1.toNat w.2 else du)

theorem crashW_len (keep : List Int) : ∀ (pe : List (Int × List UInt8)) (k : Nat) (du : List (List UInt8)), (crashW keep k pe du).length = du.length
  | [], k, du => rfl
  | w :: r, k, du => by rw [crashW, crashW_len keep r]; split <;> simp

def okK (keep : List Int) (n : Nat) : Bool := keep.all fun k => decide (0 ≤ k) && decide (k < n)

def flags (n : Nat) (pre : List Int) : List Dat := (List.range n).map fun (j : Nat) => Dat.bool (decide ((j : Int) ∈ pre))

theorem flags_len (n : Nat) (pre : List Int) : (flags n pre).length = n := by simp [flags]
theorem flags_get (n : Nat) (pre : List Int) {j : Nat} (h : j < n) : (flags n pre)[j]? = some (.bool (decide ((j : Int) ∈ pre))) := by simp [flags, h]
theorem flags_set (n : Nat) (pre : List Int) {k : Int} (h1 : 0 ≤ k) (h2 : k < n) : (flags n pre).set k.toNat (.bool true) = flags n (pre ++ [k]) := by
  apply List.ext_getElem?
  intro j
  rw [List.getElem?_set]
  by_cases hj : j < n
  · rw [flags_get n _ hj, flags_get n _ hj, flags_len]
    by_cases he : k.toNat = j
    · have : (j : Int) ∈ pre ++ [k] := by simp; right; omega
      rw [if_pos he, if_pos (by omega)]
      simp [this]
    · have : ¬ (j : Int) = k := by omega
      rw [if_neg he]
      simp [this]
  · rw [List.getElem?_eq_none (by rw [flags_len]; omega), List.getElem?_eq_none (by rw [flags_len]; omega)]
    split
    · rw [flags_len, if_neg (by omega)]
    · rfl
theorem flags_nil (n : Nat) : List.replicate n (Dat.bool false) = flags n [] := by
  apply List.ext_getElem?
  intro j
  by_cases hj : j < n
  · rw [flags_get n _ hj, List.getElem?_replicate, if_pos hj]; simp
  · rw [List.getElem?_eq_none (by simp; omega), List.getElem?_eq_none (by rw [flags_len]; omega)]

def ckPost (st : Store) (n : Nat) (keep : List Int) (t : Bool) (q : AEx × St) : Prop :=
  (q.1 = .ret ∧ t = false ∧ hd [4] [] q.2 = some ⟨[(4, .dat (.int .i64 2))], st ++ [((19, 0), .arr 1 0 false [])]⟩) ∨
  (q.1 = .exit 0 ∧ t = true ∧ hd [0, 5] [] q.2 = some ⟨[(0, .ref (0, 0) 0), (5, .rsl (19, 0) 0 1 0 n)], st ++ [((19, 0), .arr 1 0 false (flags n keep))]⟩)

/-- the check of the numbers, and the marks -/
theorem ck_loop {v : Nat} {du : List (List UInt8)} {pe : List (Int × List UInt8)} {cr op : Int} {pv : AVal} {po : List Obj} (hp : Pend pe pv po) (n : Nat) : ∀ (rest pre : List Int) (s : St), pre.length + rest.length < 1000000 →
    hd [0, 5, 19, 20, 21] [] s = some ⟨[(0, .ref (0, 0) 0), (5, .rsl (19, 0) 0 1 0 n), (19, .dat (.sl ((pre ++ rest).map I64))), (20, .dat (.int .i64 (pre ++ rest).length)), (21, .dat (.int .i64 pre.length))], dst v du cr op pv po ++ [((19, 0), .arr 1 0 false (flags n pre))]⟩ →
    Ev (loopLim (exec KJ l22_0) s) fun q => (q.1 = .ret ∧ okK rest n = false ∧ ∃ fl, hd [4] [] q.2 = some ⟨[(4, .dat (.int .i64 2))], dst v du cr op pv po ++ [((19, 0), .arr 1 0 false fl)]⟩) ∨
      (q.1 = .exit 0 ∧ okK rest n = true ∧ hd [0, 5] [] q.2 = some ⟨[(0, .ref (0, 0) 0), (5, .rsl (19, 0) 0 1 0 n)], dst v du cr op pv po ++ [((19, 0), .arr 1 0 false (flags n (pre ++ rest)))]⟩) := by
  intro rest
  induction rest with
  | nil =>
    intro pre s hl hs
    apply ev_loop
    rcases hp with ⟨rfl, rfl, rfl⟩ | ⟨v2, rfl, rfl⟩
    · simp [hs, dst, dskB, okK]
    · simp [hs, dst, dskB, okK]
  | cons k rest ih =>
    intro pre s hl hs
    apply ev_loop
    rw [List.length_cons] at hl
    have hx : Ix pre.length := by unfold Ix; omega
    have ih2 := ih (pre ++ [k])
    have hgk := fun h1 h2 => flags_set n pre (k := k) h1 h2
    have hfl := flags_len n pre
    have hfg := fun h : k.toNat < n => flags_get n pre h
    by_cases hk : 0 ≤ k ∧ k < n
    · have hok : okK (k :: rest) n = okK rest n := by simp [okK, hk.1, hk.2]
      have e1 : pre ++ k :: rest = (pre ++ [k]) ++ rest := by simp
      have hk1 : ¬ k < 0 := by omega
      have hk2 : ¬ (n : Int) ≤ k := by omega
      rw [hok, e1]
      have hg := hfg (by omega)
      have hg' : ∀ h : k.toNat < (flags n pre).length, (flags n pre)[k.toNat] = Dat.bool (decide ((k.toNat : Int) ∈ pre)) := by
        intro h
        rw [List.getElem?_eq_getElem h] at hg
        exact Option.some.inj hg
      have hse := hgk hk.1 hk.2
      generalize flags n pre = F at *
      generalize hQ : (fun q : AEx × St => (q.1 = .ret ∧ okK rest n = false ∧ ∃ fl, hd [4] [] q.2 = some ⟨[(4, .dat (.int .i64 2))], dst v du cr op pv po ++ [((19, 0), .arr 1 0 false fl)]⟩) ∨
      (q.1 = .exit 0 ∧ okK rest n = true ∧ hd [0, 5] [] q.2 = some ⟨[(0, .ref (0, 0) 0), (5, .rsl (19, 0) 0 1 0 n)], dst v du cr op pv po ++ [((19, 0), .arr 1 0 false (flags n (pre ++ [k] ++ rest)))]⟩)) = Q at ih2 ⊢
      rcases hp with ⟨rfl, rfl, rfl⟩ | ⟨v2, rfl, rfl⟩
      · simp [hs, dst, dskB, hx, hk1, hk2, hk.1, hk.2, hg, hg', hfl, hse]
        refine Ev.mono (ih2 _ (by simp; omega) (by simp [dst, dskB])) (fun _ h => h)
      · simp [hs, dst, dskB, hx, hk1, hk2, hk.1, hk.2, hg, hg', hfl, hse]
        refine Ev.mono (ih2 _ (by simp; omega) (by simp [dst, dskB])) (fun _ h => h)
    · have hok : okK (k :: rest) n = false := by
        simp only [okK, List.all_cons]
        by_cases h0 : 0 ≤ k
        · have h1 : ¬ k < n := fun h => hk ⟨h0, h⟩
          simp [h1]
        · simp [h0]
      rw [hok]
      by_cases hk1 : k < 0
      · rcases hp with ⟨rfl, rfl, rfl⟩ | ⟨v2, rfl, rfl⟩ <;> simp [hs, dst, dskB, hx, hk1]
      · have hk2 : (n : Int) ≤ k := by omega
        rcases hp with ⟨rfl, rfl, rfl⟩ | ⟨v2, rfl, rfl⟩ <;> simp [hs, dst, dskB, hx, hk1, hk2]
end Go.Am

/- Walks: crashes, executed. -/
set_option linter.unusedVariables false
set_option linter.unusedSimpArgs false
set_option maxRecDepth 10000
namespace Go.Am
open Go.Proofs

def cwPost (v v2 n : Nat) (cr op : Int) (pe : List (Int × List UInt8)) (du : List (List UInt8)) (q : AEx × St) : Prop := q.1 = .exit 2 ∧ ∃ F,
  hd [0] [] q.2 = some ⟨[(0, .ref (0, 0) 0)], [((0,0), dskB (.rsl (0, 1) v 1 0 n) (.rsl (0, 2) v2 2 0 pe.length) cr op), ((0,1), .arr 1 v false (du.map Bs)), ((0,2), .arr 2 v2 false (pe.map pnd)), ((6, 0), .arr 1 0 false F)]⟩

theorem cw_loop (v v2 n : Nat) (cr op : Int) (keep : List Int) : ∀ (rest pre : List (Int × List UInt8)) (s : St) (du : List (List UInt8)), (∀ w ∈ rest, 0 ≤ w.1 ∧ w.1 < n) → pre.length + rest.length < 1000000000 → du.length = n →
    hd [0, 5, 40, 41, 42] [0, 5, 40] s = some ⟨[(0, .ref (0,0) 0), (5, .rsl (6, 0) 0 1 0 (pre ++ rest).length), (40, .rsl (0, 2) v2 2 0 (pre ++ rest).length), (41, .dat (.int .i64 (pre ++ rest).length)), (42, .dat (.int .i64 pre.length))],
      [((0,0), dskB (.rsl (0, 1) v 1 0 n) (.rsl (0, 2) v2 2 0 (pre ++ rest).length) cr op), ((0,1), .arr 1 v false (du.map Bs)), ((0,2), .arr 2 v2 false ((pre ++ rest).map pnd)), ((6, 0), .arr 1 0 false (flags (pre ++ rest).length keep))]⟩ →
    Ev (loopLim (exec KJ l22_1) s) (cwPost v v2 n cr op (pre ++ rest) (crashW keep pre.length rest du)) := by
  intro rest
  induction rest with
  | nil =>
    intro pre s du h hi hl hs
    apply ev_loop
    generalize flags (pre ++ []).length keep = F at *
    simp [hs, crashW, dskB]
    exact ⟨rfl, F, by simp [dskB]⟩
  | cons w rest ih =>
    intro pre s du h hi hl hs
    apply ev_loop
    rw [List.length_cons] at hi
    obtain ⟨h1, h2⟩ := h w (by simp)
    have hx : Ix pre.length := by unfold Ix; omega
    obtain ⟨d, hd, hd'⟩ := get_at' du (i := w.1.toNat) (by omega)
    have e1 : pre ++ w :: rest = (pre ++ [w]) ++ rest := by simp
    have hfl := flags_len (pre ++ w :: rest).length keep
    have hfg := flags_get (pre ++ w :: rest).length keep (j := pre.length) (by simp)
    have hfg' : ∀ h : pre.length < (flags (pre ++ w :: rest).length keep).length, (flags (pre ++ w :: rest).length keep)[pre.length] = Dat.bool (decide ((pre.length : Int) ∈ keep)) := by
      intro h
      rw [List.getElem?_eq_getElem h] at hfg
      exact Option.some.inj hfg
    have ih2 := ih (pre ++ [w])
    rw [← e1] at ih2
    generalize flags (pre ++ w :: rest).length keep = F at *
    simp only [List.length_append, List.length_cons] at hfl
    rw [crashW]
    by_cases hk : (pre.length : Int) ∈ keep
    · rw [if_pos hk]
      rw [show (pre ++ [w]).length = pre.length + 1 from by simp] at ih2
      generalize hQ : cwPost v v2 n cr op (pre ++ w :: rest) (crashW keep (pre.length + 1) rest (du.set w.1.toNat w.2)) = Q
      simp [hs, dskB, hx, h1, h2, hd, hd', hl, hfl, hfg, hfg', hk]
      rw [← hQ]
      refine Ev.mono (ih2 _ (du.set w.1.toNat w.2) (fun w h' => h w (by simp [h'])) (by omega) (by simp [hl]) (by simp [dskB, hfl])) (fun _ h => h)
    · rw [if_neg hk]
      rw [show (pre ++ [w]).length = pre.length + 1 from by simp] at ih2
      generalize hQ : cwPost v v2 n cr op (pre ++ w :: rest) (crashW keep (pre.length + 1) rest du) = Q
      simp [hs, dskB, hx, h1, h2, hd, hd', hl, hfl, hfg, hfg', hk]
      rw [← hQ]
      refine Ev.mono (ih2 _ du (fun w h' => h w (by simp [h'])) (by omega) hl (by simp [dskB, hfl])) (fun _ h => h)

theorem crash_run {v : Nat} {du : List (List UInt8)} {pe : List (Int × List UInt8)} {cr op : Int} {pv : AVal} {po : List Obj} (hp : Pend pe pv po) (h : ∀ w ∈ pe, 0 ≤ w.1 ∧ w.1 < du.length) (hl : pe.length < 1000000) (keep : List Int) (hk : keep.length < 1000000) (h1 : 0 ≤ cr) (h2 : cr < 1000000) :
    KJ 22 [.ref (0, 0) 0, .dat (.sl (keep.map I64))] (dsk v du cr op pv po) =
      if okK keep pe.length then some (.dat (.int .i64 0), dsk v (crashW keep 0 pe du) (cr + 1) op .nils po) else some (.dat (.int .i64 2), dsk v du cr op pv po) := by
  have hv := valid_run (v := v) (du := du) (cr := cr) (op := op) hp
  have a1 : cr + 1 < 1000000000000000 := by omega
  have a2 : -1000000000000000 < cr + 1 := by omega
  have hck := fun s hh => ck_loop (v := v) (du := du) (cr := cr) (op := op) hp pe.length keep [] s (by simpa using hk) hh
  rw [List.nil_append] at hck
  have hfn := flags_nil pe.length
  have hfl := flags_len pe.length keep
  rcases hp with ⟨rfl, rfl, rfl⟩ | ⟨v2, rfl, rfl⟩
  · simp [dsk, dskB] at hv
    generalize hQ : (fun q : AEx × St => (q.1 = .ret ∧ okK keep ([] : List (Int × List UInt8)).length = false ∧ _) ∨ _) = Q at hck
    by_cases hok : okK keep ([] : List (Int × List UInt8)).length = true
    · rw [if_pos hok]
      refine callT_ev (fn := fn22) rfl rfl ?_
      simp [runFun_eq, dsk, dskB, hv]
      simp only [ev_bnd_iff]
      refine Ev.mono (hck _ (by simp [dst, dskB, flags])) ?_
      rw [← hQ]
      rintro ⟨x, s⟩ (⟨rfl, e, hs⟩ | ⟨rfl, e, hs⟩)
      · rw [hok] at e; cases e
      · simp at hs
        simp [hs, dst, dskB]
        simp only [ev_bnd_iff]
        apply ev_loop
        simp [a1, a2, crashW]
    · rw [if_neg hok]
      refine callT_ev (fn := fn22) rfl rfl ?_
      simp [runFun_eq, dsk, dskB, hv]
      simp only [ev_bnd_iff]
      refine Ev.mono (hck _ (by simp [dst, dskB, flags])) ?_
      rw [← hQ]
      rintro ⟨x, s⟩ (⟨rfl, e, fl, hs⟩ | ⟨rfl, e, hs⟩)
      · dsimp only at hs
        simp only [blkK, Ev_some, seqK, endK_hd hs]
        simp [dst, dskB]
      · exact absurd e hok
  · simp [dsk, dskB] at hv
    have hcw := fun s hh => cw_loop v v2 du.length cr op keep pe [] s du h (by simp; omega) rfl hh
    rw [List.nil_append] at hcw
    have hr : (pe.length : Int) ≤ 1099511627776 := by omega
    have hr' : pe.length ≤ 1099511627776 := by omega
    generalize hQ : (fun q : AEx × St => (q.1 = .ret ∧ okK keep pe.length = false ∧ _) ∨ _) = Q at hck
    by_cases hok : okK keep pe.length = true
    · rw [if_pos hok]
      refine callT_ev (fn := fn22) rfl rfl ?_
      simp [runFun_eq, dsk, dskB, hv, hr, hr']
      simp only [ev_bnd_iff]
      refine Ev.mono (hck _ (by simp [dst, dskB, ← hfn])) ?_
      rw [← hQ]
      rintro ⟨x, s⟩ (⟨rfl, e, hs⟩ | ⟨rfl, e, hs⟩)
      · rw [hok] at e; cases e
      · generalize flags pe.length keep = F at *
        simp at hs
        simp [hs, dst, dskB]
        simp only [ev_bnd_iff]
        refine Ev.mono (hcw _ (by simp [dskB])) ?_
        rintro ⟨x, s⟩ ⟨rfl, F', hs⟩
        simp at hs
        simp [hs, dskB, a1, a2, crashW_len]
    · rw [if_neg hok]
      refine callT_ev (fn := fn22) rfl rfl ?_
      simp [runFun_eq, dsk, dskB, hv, hr, hr']
      simp only [ev_bnd_iff]
      refine Ev.mono (hck _ (by simp [dst, dskB, ← hfn])) ?_
      rw [← hQ]
      rintro ⟨x, s⟩ (⟨rfl, e, fl, hs⟩ | ⟨rfl, e, hs⟩)
      · dsimp only at hs
        simp only [blkK, Ev_some, seqK, endK_hd hs]
        simp [dst, dskB]
      · exact absurd e hok
end Go.Am

/- Walks: crashes of the reference's disk. -/
set_option linter.unusedVariables false
set_option linter.unusedSimpArgs false
set_option maxRecDepth 10000
namespace Go.Am
open Go.Proofs

theorem rck_loop {v : Nat} {du : List (List UInt8)} {pe : List (Int × List UInt8)} {cr op : Int} {pv : AVal} {po : List Obj} (hp : Pend pe pv po) : ∀ (rest pre : List Int) (s : St), pre.length + rest.length < 1000000 →
    hd [0, 1, 5] [] s = some ⟨[(0, .ref (0, 0) 0), (1, .dat (.sl ((pre ++ rest).map I64))), (5, .dat (.int .i64 pre.length))], dst v du cr op pv po⟩ →
    Ev (loopLim (exec KJ l23_0) s) fun q => (q.1 = .ret ∧ okK rest pe.length = false ∧ hd [4] [] q.2 = some ⟨[(4, .dat (.int .i64 2))], dst v du cr op pv po⟩) ∨
      (q.1 = .exit 0 ∧ okK rest pe.length = true ∧ hd [0, 1] [] q.2 = some ⟨[(0, .ref (0, 0) 0), (1, .dat (.sl ((pre ++ rest).map I64)))], dst v du cr op pv po⟩) := by
  intro rest
  induction rest with
  | nil =>
    intro pre s hl hs
    apply ev_loop
    rcases hp with ⟨rfl, rfl, rfl⟩ | ⟨v2, rfl, rfl⟩ <;> simp [hs, dst, dskB, okK]
  | cons k rest ih =>
    intro pre s hl hs
    apply ev_loop
    rw [List.length_cons] at hl
    have hx : Ix pre.length := by unfold Ix; omega
    have ih2 := ih (pre ++ [k])
    by_cases hk : 0 ≤ k ∧ k < pe.length
    · have hok : okK (k :: rest) pe.length = okK rest pe.length := by simp [okK, hk.1, hk.2]
      have e1 : pre ++ k :: rest = (pre ++ [k]) ++ rest := by simp
      have hk1 : ¬ k < 0 := by omega
      have hk2 : ¬ (pe.length : Int) ≤ k := by omega
      rw [hok, e1]
      generalize hQ : (fun q : AEx × St => (q.1 = .ret ∧ okK rest pe.length = false ∧ hd [4] [] q.2 = some ⟨[(4, .dat (.int .i64 2))], dst v du cr op pv po⟩) ∨
        (q.1 = .exit 0 ∧ okK rest pe.length = true ∧ hd [0, 1] [] q.2 = some ⟨[(0, .ref (0, 0) 0), (1, .dat (.sl ((pre ++ [k] ++ rest).map I64)))], dst v du cr op pv po⟩)) = Q at ih2 ⊢
      rcases hp with ⟨rfl, rfl, rfl⟩ | ⟨v2, rfl, rfl⟩
      · simp at hk
        omega
      · simp [hs, dst, dskB, hx, hk1, hk2]
        refine Ev.mono (ih2 _ (by simp; omega) (by simp [dst, dskB])) (fun _ h => h)
    · have hok : okK (k :: rest) pe.length = false := by
        simp only [okK, List.all_cons]
        by_cases h0 : 0 ≤ k
        · have h1 : ¬ k < pe.length := fun h => hk ⟨h0, h⟩
          simp [h1]
        · simp [h0]
      rw [hok]
      by_cases hk1 : k < 0
      · rcases hp with ⟨rfl, rfl, rfl⟩ | ⟨v2, rfl, rfl⟩ <;> simp [hs, dst, dskB, hx, hk1]
      · have hk2 : (pe.length : Int) ≤ k := by omega
        rcases hp with ⟨rfl, rfl, rfl⟩ | ⟨v2, rfl, rfl⟩
        · have hk3 : 0 ≤ k := by omega
          simp [hs, dst, dskB, hx, hk1, hk3]
        · simp [hs, dst, dskB, hx, hk1, hk2]

def inPost (env0 : List (Nat × AVal)) (st : Store) (t : Bool) (q : AEx × St) : Prop := q.1 = .exit 4 ∧ hd [0, 1, 6, 7] [] q.2 = some ⟨env0 ++ [(7, .dat (.bool t))], st⟩

theorem in_loop (st : Store) (k : Nat) (a : AVal) : ∀ (rest pre : List Int) (s : St), pre.length + rest.length < 1000000 →
    hd [0, 1, 6, 7, 8] [] s = some ⟨[(0, a), (1, .dat (.sl ((pre ++ rest).map I64))), (6, .dat (.int .i64 k)), (7, .dat (.bool (decide ((k : Int) ∈ pre)))), (8, .dat (.int .i64 pre.length))], st⟩ →
    Ev (loopLim (exec KJ l23_1) s) (inPost [(0, a), (1, .dat (.sl ((pre ++ rest).map I64))), (6, .dat (.int .i64 k))] st (decide ((k : Int) ∈ pre ++ rest))) := by
  intro rest
  induction rest with
  | nil =>
    intro pre s hl hs
    apply ev_loop
    generalize hT : decide ((k : Int) ∈ pre) = t at *
    simp [hs, inPost, hT]
  | cons x rest ih =>
    intro pre s hl hs
    apply ev_loop
    rw [List.length_cons] at hl
    have hx : Ix pre.length := by unfold Ix; omega
    have ih2 := ih (pre ++ [x])
    have e1 : pre ++ x :: rest = (pre ++ [x]) ++ rest := by simp
    rw [← e1] at ih2
    generalize hQ : inPost _ st (decide ((k : Int) ∈ pre ++ x :: rest)) = Q at ih2 ⊢
    by_cases hk : (k : Int) ∈ pre
    · have h1 : decide ((k : Int) ∈ pre ++ [x]) = true := by simp [hk]
      rw [h1] at ih2
      simp [hs, hx, hk]
      refine Ev.mono (ih2 _ (by simp; omega) (by simp)) (fun _ h => h)
    · by_cases hkx : x = k
      · have h1 : decide ((k : Int) ∈ pre ++ [x]) = true := by simp [hkx]
        rw [h1] at ih2
        simp [hs, hx, hk, hkx]
        refine Ev.mono (ih2 _ (by simp; omega) (by simp [hkx])) (fun _ h => h)
      · have h1 : decide ((k : Int) ∈ pre ++ [x]) = false := by
          have : ¬ (k : Int) = x := fun h => hkx h.symm
          simp [hk, this]
        rw [h1] at ih2
        simp [hs, hx, hk, hkx]
        refine Ev.mono (ih2 _ (by simp; omega) (by simp)) (fun _ h => h)

def rcwPost (v v2 n : Nat) (cr op : Int) (pe : List (Int × List UInt8)) (du : List (List UInt8)) (q : AEx × St) : Prop := q.1 = .exit 2 ∧
  hd [0] [] q.2 = some ⟨[(0, .ref (0, 0) 0)], [((0,0), dskB (.rsl (0, 1) v 1 0 n) (.rsl (0, 2) v2 2 0 pe.length) cr op), ((0,1), .arr 1 v false (du.map Bs)), ((0,2), .arr 2 v2 false (pe.map pnd))]⟩

theorem rcw_loop (v v2 n : Nat) (cr op : Int) (keep : List Int) (hkl : keep.length < 1000000) : ∀ (rest pre : List (Int × List UInt8)) (s : St) (du : List (List UInt8)), (∀ w ∈ rest, 0 ≤ w.1 ∧ w.1 < n) → pre.length + rest.length < 1000000000 → du.length = n →
    hd [0, 1, 6] [] s = some ⟨[(0, .ref (0,0) 0), (1, .dat (.sl (keep.map I64))), (6, .dat (.int .i64 pre.length))],
      [((0,0), dskB (.rsl (0, 1) v 1 0 n) (.rsl (0, 2) v2 2 0 (pre ++ rest).length) cr op), ((0,1), .arr 1 v false (du.map Bs)), ((0,2), .arr 2 v2 false ((pre ++ rest).map pnd))]⟩ →
    Ev (loopLim (exec KJ l23_2) s) (rcwPost v v2 n cr op (pre ++ rest) (crashW keep pre.length rest du)) := by
  intro rest
  induction rest with
  | nil =>
    intro pre s du h hi hl hs
    apply ev_loop
    simp [hs, crashW, rcwPost, dskB]
  | cons w rest ih =>
    intro pre s du h hi hl hs
    apply ev_loop
    rw [List.length_cons] at hi
    obtain ⟨h1, h2⟩ := h w (by simp)
    have hx : Ix pre.length := by unfold Ix; omega
    obtain ⟨d, hd, hd'⟩ := get_at' du (i := w.1.toNat) (by omega)
    have e1 : pre ++ w :: rest = (pre ++ [w]) ++ rest := by simp
    have ih2 := ih (pre ++ [w])
    rw [← e1, show (pre ++ [w]).length = pre.length + 1 from by simp] at ih2
    have hin := fun st a s h => in_loop st pre.length a keep [] s (by simpa using hkl) h
    rw [crashW]
    by_cases hk : (pre.length : Int) ∈ keep
    · rw [if_pos hk]
      generalize hQ : rcwPost v v2 n cr op (pre ++ w :: rest) (crashW keep (pre.length + 1) rest (du.set w.1.toNat w.2)) = Q
      simp [hs, dskB, hx]
      simp only [ev_bnd_iff]
      refine Ev.mono (hin _ _ _ (by simp; exact ⟨rfl, rfl⟩)) ?_
      rintro ⟨_, s⟩ ⟨rfl, hs⟩
      simp [hk] at hs
      simp [hs, dskB, hx, h1, h2, hd, hd', hl]
      rw [← hQ]
      refine Ev.mono (ih2 _ (du.set w.1.toNat w.2) (fun w h' => h w (by simp [h'])) (by omega) (by simp [hl]) (by simp [dskB])) (fun _ h => h)
    · rw [if_neg hk]
      generalize hQ : rcwPost v v2 n cr op (pre ++ w :: rest) (crashW keep (pre.length + 1) rest du) = Q
      simp [hs, dskB, hx]
      simp only [ev_bnd_iff]
      refine Ev.mono (hin _ _ _ (by simp; exact ⟨rfl, rfl⟩)) ?_
      rintro ⟨_, s⟩ ⟨rfl, hs⟩
      simp [hk] at hs
      simp [hs, dskB, hx]
      rw [← hQ]
      refine Ev.mono (ih2 _ du (fun w h' => h w (by simp [h'])) (by omega) hl (by simp [dskB])) (fun _ h => h)

theorem rcrash_run {v : Nat} {du : List (List UInt8)} {pe : List (Int × List UInt8)} {cr op : Int} {pv : AVal} {po : List Obj} (hp : Pend pe pv po) (h : ∀ w ∈ pe, 0 ≤ w.1 ∧ w.1 < du.length) (hl : pe.length < 1000000) (keep : List Int) (hk : keep.length < 1000000) (h1 : 0 ≤ cr) (h2 : cr < 1000000) :
    KJ 23 [.ref (0, 0) 0, .dat (.sl (keep.map I64))] (dsk v du cr op pv po) =
      if okK keep pe.length then some (.dat (.int .i64 0), dsk v (crashW keep 0 pe du) (cr + 1) op .nils po) else some (.dat (.int .i64 2), dsk v du cr op pv po) := by
  have a1 : cr + 1 < 1000000000000000 := by omega
  have a2 : -1000000000000000 < cr + 1 := by omega
  have hck := fun s hh => rck_loop (v := v) (du := du) (cr := cr) (op := op) hp keep [] s (by simpa using hk) hh
  rw [List.nil_append] at hck
  rcases hp with ⟨rfl, rfl, rfl⟩ | ⟨v2, rfl, rfl⟩
  · generalize hQ : (fun q : AEx × St => (q.1 = .ret ∧ okK keep ([] : List (Int × List UInt8)).length = false ∧ _) ∨ _) = Q at hck
    by_cases hok : okK keep ([] : List (Int × List UInt8)).length = true
    · rw [if_pos hok]
      refine callT_ev (fn := fn23) rfl rfl ?_
      simp [runFun_eq, dsk, dskB]
      simp only [ev_bnd_iff]
      refine Ev.mono (hck _ (by simp [dst, dskB])) ?_
      rw [← hQ]
      rintro ⟨x, s⟩ (⟨rfl, e, hs⟩ | ⟨rfl, e, hs⟩)
      · rw [hok] at e; cases e
      · simp at hs
        simp [hs, dst, dskB]
        simp only [ev_bnd_iff]
        apply ev_loop
        simp [a1, a2, crashW]
    · rw [if_neg hok]
      refine callT_ev (fn := fn23) rfl rfl ?_
      simp [runFun_eq, dsk, dskB]
      simp only [ev_bnd_iff]
      refine Ev.mono (hck _ (by simp [dst, dskB])) ?_
      rw [← hQ]
      rintro ⟨x, s⟩ (⟨rfl, e, hs⟩ | ⟨rfl, e, hs⟩)
      · dsimp only at hs
        simp only [blkK, Ev_some, seqK, endK_hd hs]
        simp [dst, dskB]
      · exact absurd e hok
  · have hcw := fun s hh => rcw_loop v v2 du.length cr op keep hk pe [] s du h (by simp; omega) rfl hh
    rw [List.nil_append] at hcw
    generalize hQ : (fun q : AEx × St => (q.1 = .ret ∧ okK keep pe.length = false ∧ _) ∨ _) = Q at hck
    by_cases hok : okK keep pe.length = true
    · rw [if_pos hok]
      refine callT_ev (fn := fn23) rfl rfl ?_
      simp [runFun_eq, dsk, dskB]
      simp only [ev_bnd_iff]
      refine Ev.mono (hck _ (by simp [dst, dskB])) ?_
      rw [← hQ]
      rintro ⟨x, s⟩ (⟨rfl, e, hs⟩ | ⟨rfl, e, hs⟩)
      · rw [hok] at e; cases e
      · simp at hs
        simp [hs, dst, dskB]
        simp only [ev_bnd_iff]
        refine Ev.mono (hcw _ (by simp [dskB])) ?_
        rintro ⟨x, s⟩ ⟨rfl, hs⟩
        simp at hs
        simp [hs, dskB, a1, a2, crashW_len]
    · rw [if_neg hok]
      refine callT_ev (fn := fn23) rfl rfl ?_
      simp [runFun_eq, dsk, dskB]
      simp only [ev_bnd_iff]
      refine Ev.mono (hck _ (by simp [dst, dskB])) ?_
      rw [← hQ]
      rintro ⟨x, s⟩ (⟨rfl, e, hs⟩ | ⟨rfl, e, hs⟩)
      · dsimp only at hs
        simp only [blkK, Ev_some, seqK, endK_hd hs]
        simp [dst, dskB]
      · exact absurd e hok
end Go.Am

/- Plain laws: numbers in bytes, frames, images, records. -/
set_option linter.unusedVariables false
set_option linter.unusedSimpArgs false
namespace Go.Am

theorem ofNat_toNat_lt {n : Nat} (h : n < 256) : (UInt8.ofNat n).toNat = n := by
  rw [UInt8.toNat_ofNat']
  exact Nat.mod_eq_of_lt (by simpa using h)

theorem ofNat_toNat (n : Nat) : (UInt8.ofNat n).toNat = n % 256 := by
  rw [UInt8.toNat_ofNat']

theorem num4_sum {x : Nat} (h : x < 4294967296) (r : List UInt8) : num4 (sumB x ++ r) = x := by
  simp only [num4, sumB, List.cons_append, List.nil_append, List.getD_cons_zero, List.getD_cons_succ, ofNat_toNat]
  omega

theorem pos_ne {α : Type} {l : List α} (h : l ≠ []) : 0 < l.length := List.length_pos_iff.2 h
theorem flatMap_same {α β : Type} {f g : α → List β} : ∀ {l : List α}, (∀ a ∈ l, f a = g a) → l.flatMap f = l.flatMap g
  | [], _ => rfl
  | a :: l, h => by rw [List.flatMap_cons, List.flatMap_cons, h a (by simp), flatMap_same fun b hb => h b (by simp [hb])]
theorem uintB_ne (n : Nat) : uintB n ≠ [] := by
  rw [uintB]
  split <;> simp

/-- the bytes of a number, read again -/
theorem uintB_low : ∀ (n : Nat) (r : List UInt8), low (uintB n).length (uintB n ++ r) = n := by
  intro n
  induction n using Nat.strongRecOn with
  | _ n ih =>
    intro r
    rw [uintB]
    split
    · rename_i h
      have := ih (n / 128) (by omega) r
      simp only [List.length_cons, List.cons_append, low, this, ofNat_toNat]
      omega
    · simp only [List.length_cons, List.length_nil, List.cons_append, List.nil_append, low, ofNat_toNat]
      omega

theorem uintB_lead : ∀ (n m : Nat) (r : List UInt8), (uintB n).length ≤ m → lead m (uintB n ++ r) + 1 = (uintB n).length := by
  intro n
  induction n using Nat.strongRecOn with
  | _ n ih =>
    intro m r hm
    rw [uintB] at hm ⊢
    split
    · rename_i h
      rw [if_pos h, List.length_cons] at hm
      obtain ⟨m, rfl⟩ : ∃ k, m = k + 1 := ⟨m - 1, by omega⟩
      have := ih (n / 128) (by omega) m r (by omega)
      simp only [List.length_cons, List.cons_append, lead, ofNat_toNat]
      rw [if_pos (by omega)]
      omega
    · rename_i h
      rw [if_neg h, List.length_singleton] at hm
      obtain ⟨m, rfl⟩ : ∃ k, m = k + 1 := ⟨m - 1, by omega⟩
      simp only [List.length_cons, List.length_nil, List.cons_append, List.nil_append, lead, ofNat_toNat]
      rw [if_neg (by omega)]

/-- the last byte is no zero, if there are more -/
theorem uintB_last : ∀ (n : Nat) (r : List UInt8), 1 < (uintB n).length → (uintB n ++ r).getD ((uintB n).length - 1) 0 ≠ 0 := by
  intro n
  induction n using Nat.strongRecOn with
  | _ n ih =>
    intro r h
    rw [uintB] at h ⊢
    split
    · rename_i hn
      rw [if_pos hn, List.length_cons] at h
      rw [List.length_cons, List.cons_append]
      by_cases h1 : 1 < (uintB (n / 128)).length
      · have := ih (n / 128) (by omega) r h1
        rw [show (uintB (n / 128)).length + 1 - 1 = ((uintB (n / 128)).length - 1) + 1 from by omega, List.getD_cons_succ]
        exact this
      · have h2 : (uintB (n / 128)).length = 1 := by
          have := uintB_ne (n / 128)
          have : 0 < (uintB (n / 128)).length := pos_ne this
          omega
        have h3 : ¬ 128 ≤ n / 128 := by
          intro h4
          rw [uintB, if_pos h4, List.length_cons] at h2
          have := pos_ne (uintB_ne (n / 128 / 128))
          omega
        rw [h2, uintB, if_neg h3]
        simp only [Nat.add_sub_cancel, List.cons_append, List.nil_append, List.getD_cons_succ, List.getD_cons_zero]
        intro h0
        have := congrArg UInt8.toNat h0
        rw [ofNat_toNat] at this
        have h5 : (0 : UInt8).toNat = 0 := rfl
        omega
    · rename_i hn
      rw [if_neg hn, List.length_singleton] at h
      omega

theorem uintB_le9 : ∀ (k n : Nat), n < 128 ^ (k + 1) → (uintB n).length ≤ k + 1
  | 0, n, h => by
    rw [uintB, if_neg (by omega)]
    simp
  | k + 1, n, h => by
    rw [uintB]
    split
    · have := uintB_le9 k (n / 128) (by rw [Nat.pow_succ] at h; omega)
      simp only [List.length_cons]
      omega
    · simp

theorem decB_uint (n : Nat) (r : List UInt8) (hn : n < 1000000000) : decB (uintB n ++ r) = (n, (uintB n).length, 0) := by
  have h9 : (uintB n).length ≤ 5 := uintB_le9 4 n (by omega)
  have hl := uintB_lead n 9 r (by omega)
  have hp := pos_ne (uintB_ne n)
  have hlow := uintB_low n r
  unfold decB
  rw [if_neg (by omega), if_neg (by rw [List.length_append]; omega), hl, hlow, if_neg ?_, if_neg (by omega)]
  rintro ⟨h1, h2⟩
  refine uintB_last n r (by omega) ?_
  rw [show (uintB n).length - 1 = lead 9 (uintB n ++ r) from by omega]
  exact h2

theorem fopB_seal (p r : List UInt8) (hp : p.length < 1000000000) : fopB (sealB p ++ r) = (p, r, 0) := by
  have hd : decB (sealB p ++ r) = (p.length, (uintB p.length).length, 0) := by
    rw [sealB, List.append_assoc, List.append_assoc]
    exact decB_uint _ _ hp
  have hs : (sumB (crcB (uintB p.length ++ p))).length = 4 := rfl
  unfold fopB
  rw [hd]
  dsimp only
  have e1 : (sealB p ++ r).take ((uintB p.length).length + p.length) = uintB p.length ++ p := by
    rw [sealB, List.append_assoc, List.take_left' (by simp)]
  have e2 : (sealB p ++ r).drop ((uintB p.length).length + p.length) = sumB (crcB (uintB p.length ++ p)) ++ r := by
    rw [sealB, List.append_assoc, List.drop_left' (by simp)]
  have e3 : ((sealB p ++ r).drop (uintB p.length).length).take p.length = p := by
    rw [sealB, List.append_assoc, List.append_assoc, List.drop_left' rfl, List.take_left' rfl]
  have e4 : (sealB p ++ r).drop ((uintB p.length).length + p.length + 4) = r := by
    rw [← List.drop_drop, e2, List.drop_left' hs]
  rw [if_neg (by simp), if_neg (by simp [sealB, hs]; omega), e1, e2, e3, e4, if_pos (by rw [List.take_left' hs])]

/-! ### images -/

theorem secB_64 (e n j k : Nat) (d : List UInt8) : (secB e n j k d).length = 64 := by
  have : (chunk d j).length ≤ 52 := by simp [chunk]; omega
  simp [secB, sumB, le2]
  omega

theorem secB_ep {e : Nat} (he : e < 4294967296) (n j k : Nat) (d : List UInt8) : num4 (secB e n j k d) = e := by
  simp only [secB, List.append_assoc]
  exact num4_sum he _

theorem secB_no {n : Nat} (hn : n < 4294967296) (e j k : Nat) (d : List UInt8) : num4 ((secB e n j k d).drop 4) = n := by
  simp only [secB, List.append_assoc]
  rw [List.drop_left' (by rfl)]
  exact num4_sum hn _

theorem secB_cnt {k : Nat} (hk : k < 65536) (e n j : Nat) (d : List UInt8) : recB.num2 (secB e n j k d) = k := by
  have h : (secB e n j k d) = (sumB e ++ sumB n ++ le2 j) ++ (le2 k ++ (chunk d j ++ List.replicate (52 - (chunk d j).length) 0)) := by simp [secB]
  have e1 : (secB e n j k d).getD 10 0 = UInt8.ofNat k := by rw [h]; rfl
  have e2 : (secB e n j k d).getD 11 0 = UInt8.ofNat (k / 256) := by rw [h]; rfl
  rw [recB.num2, e1, e2, ofNat_toNat, ofNat_toNat]
  omega

theorem secB_pay (e n j k : Nat) (d : List UInt8) : (secB e n j k d).drop 12 = chunk d j ++ List.replicate (52 - (chunk d j).length) 0 := by
  have h : (secB e n j k d) = (sumB e ++ sumB n ++ le2 j ++ le2 k) ++ (chunk d j ++ List.replicate (52 - (chunk d j).length) 0) := by simp [secB]
  rw [h, List.drop_left' (by rfl)]

theorem pad_chunk (d : List UInt8) (k j : Nat) (hj : j < k) (hk : d.length ≤ 52 * k) : chunk d j ++ List.replicate (52 - (chunk d j).length) 0 = ((d ++ List.replicate (52 * k - d.length) (0 : UInt8)).drop (52 * j)).take 52 := by
  rw [List.drop_append, List.take_append, List.drop_replicate, List.take_replicate]
  congr 1
  congr 1
  simp only [chunk, List.length_take, List.length_drop]
  omega

theorem take_chunks {α : Type} (Z : List α) : ∀ m, (List.range m).flatMap (fun j => (Z.drop (52 * j)).take 52) = Z.take (52 * m)
  | 0 => by simp
  | m + 1 => by
    rw [List.range_succ, List.flatMap_append, take_chunks Z m]
    simp only [List.flatMap_cons, List.flatMap_nil, List.append_nil]
    rw [Nat.mul_succ, List.take_add]

theorem pay_image (p : List UInt8) (n e : Nat) : ∃ r, pay (imageB p n e) = sealB p ++ r := by
  refine ⟨List.replicate (52 * cntB (sealB p) - (sealB p).length) 0, ?_⟩
  have hc : (sealB p).length ≤ 52 * cntB (sealB p) := by unfold cntB; omega
  have h1 : pay (imageB p n e) = (List.range (cntB (sealB p))).flatMap fun j => (((sealB p) ++ List.replicate (52 * cntB (sealB p) - (sealB p).length) (0 : UInt8)).drop (52 * j)).take 52 := by
    rw [pay, imageB, List.flatMap_map]
    refine flatMap_same fun j hj => ?_
    rw [secB_pay, pad_chunk _ _ _ (List.mem_range.1 hj) hc]
  rw [h1, take_chunks, List.take_of_length_le (by simp; omega)]

theorem imageB_get (p : List UInt8) (n e j : Nat) (h : j < (imageB p n e).length) : (imageB p n e)[j]? = some (secB e n j (imageB p n e).length (sealB p)) := by
  rw [imageB_len] at h
  rw [imageB_len]
  simp [imageB, h]

end Go.Am

/- Plain laws: what a disk records, and what is left of it when only some sectors arrive. -/
set_option linter.unusedVariables false
set_option linter.unusedSimpArgs false
namespace Go.Am

theorem setAll_get : ∀ (W : List (List UInt8)) (du : List (List UInt8)) (a i : Nat), a + W.length ≤ du.length → (setAll du a W)[i]? = if a ≤ i ∧ i < a + W.length then W[i - a]? else du[i]?
  | [], du, a, i, h => by
    rw [setAll, if_neg]
    simp
    try omega
  | s :: r, du, a, i, h => by
    rw [List.length_cons] at h
    rw [setAll, setAll_get r (du.set a s) (a + 1) i (by rw [List.length_set]; omega)]
    by_cases h1 : a + 1 ≤ i ∧ i < a + 1 + r.length
    · rw [if_pos h1, if_pos (by rw [List.length_cons]; omega), show i - a = (i - (a + 1)) + 1 from by omega, List.getElem?_cons_succ]
    · rw [if_neg h1]
      by_cases h2 : i = a
      · subst h2
        rw [if_pos (by rw [List.length_cons]; omega), Nat.sub_self, List.getElem?_set_self (by omega)]
        rfl
      · rw [if_neg (by rw [List.length_cons]; omega), List.getElem?_set_ne (fun h => h2 h.symm)]

theorem slice_eq {α : Type} {l l' : List α} {a k : Nat} (h : ∀ i, a ≤ i → i < a + k → l[i]? = l'[i]?) : (l.drop a).take k = (l'.drop a).take k := by
  apply List.ext_getElem?
  intro i
  rw [List.getElem?_take, List.getElem?_take]
  split
  · rw [List.getElem?_drop, List.getElem?_drop]
    exact h _ (by omega) (by omega)
  · rfl

theorem getD_of {α : Type} {l l' : List α} {a : Nat} {d : α} (h : l[a]? = l'[a]?) : l.getD a d = l'.getD a d := by
  rw [List.getD_eq_getElem?_getD, List.getD_eq_getElem?_getD, h]

theorem recB_congr {all all' : List (List UInt8)} {a n : Nat} (hl : all.length = all'.length) (h0 : all[a]? = all'[a]?) (h : ∀ i, a ≤ i → i < a + recB.num2 (all.getD a []) → all[i]? = all'[i]?) : recB all a n = recB all' a n := by
  unfold recB
  rw [hl, getD_of h0]
  rw [getD_of h0] at h
  rw [slice_eq h]

theorem recB_k {all : List (List UInt8)} {a n : Nat} {p : List UInt8} {k : Nat} (h : recB all a n = some (p, k)) : k = recB.num2 (all.getD a []) ∧ num4 (all.getD a []) ≠ 0 := by
  unfold recB at h
  split at h
  · cases h
  · split at h
    · cases h
    · rename_i h1
      split at h
      · cases h
      · split at h
        · cases h
          exact ⟨rfl, fun h0 => h1 (.inl h0)⟩
        · cases h

/-- what a record's sectors are -/
theorem recB_sec {all : List (List UInt8)} {a n : Nat} {p : List UInt8} {k : Nat} (h : recB all a n = some (p, k)) {j : Nat} (hj : j < k) :
    (imageB p n (num4 (all.getD a []))).length = k ∧ all[a + j]? = some (secB (num4 (all.getD a [])) n j k (sealB p)) := by
  obtain ⟨h1, h2, h3, h4⟩ := recB_some h
  have hl : (imageB p n (num4 (all.getD a []))).length = k := by rw [h4, List.length_take, List.length_drop]; omega
  refine ⟨hl, ?_⟩
  have hg := imageB_get p n (num4 (all.getD a [])) j (by omega)
  rw [hl, h4, List.getElem?_take, if_pos hj, List.getElem?_drop] at hg
  exact hg

theorem recB_written {all : List (List UInt8)} {a n ep : Nat} {b : List UInt8} (h : (all.drop a).take (imageB b n ep).length = imageB b n ep) (hfit : a + (imageB b n ep).length ≤ all.length) (hN : all.length ≤ 4096) (hep : 1 ≤ ep) (hep2 : ep < 4294967296) (hb : b.length < 1000000000) :
    recB all a n = some (b, (imageB b n ep).length) := by
  have hpos : 0 < (imageB b n ep).length := by
    rw [imageB_len]
    unfold cntB
    have : 4 ≤ (sealB b).length := by simp [sealB, sumB]; omega
    omega
  have h0 : all[a]? = some (secB ep n 0 (imageB b n ep).length (sealB b)) := by
    have := imageB_get b n ep 0 hpos
    have h2 : ((all.drop a).take (imageB b n ep).length)[0]? = all[a]? := by rw [List.getElem?_take, if_pos hpos, List.getElem?_drop]; rfl
    rw [← h2, h]
    exact this
  have hg : all.getD a [] = secB ep n 0 (imageB b n ep).length (sealB b) := by rw [List.getD_eq_getElem?_getD, h0]; rfl
  have e1 : num4 (all.getD a []) = ep := by rw [hg, secB_ep hep2]
  have e2 : recB.num2 (all.getD a []) = (imageB b n ep).length := by rw [hg, secB_cnt (by omega)]
  obtain ⟨r, hr⟩ := pay_image b n ep
  unfold recB
  rw [e1, e2, h, hr, fopB_seal b r hb, if_neg (by omega), if_neg (by omega), if_neg (by simp), if_pos rfl]

def Chain (all : List (List UInt8)) : Nat → Nat → List (List UInt8) → Nat → Prop
  | a, _, [], e => a = e
  | a, n, p :: rs, e => ∃ k, recB all a n = some (p, k) ∧ Chain all (a + k) (n + 1) rs e

theorem chain_le {all : List (List UInt8)} : ∀ {rs : List (List UInt8)} {a n e : Nat}, Chain all a n rs e → a + rs.length ≤ e
  | [], a, n, e, h => by simp only [Chain] at h; simp; omega
  | p :: rs, a, n, e, ⟨k, h1, h2⟩ => by
    have := chain_le h2
    have := recB_some h1
    simp only [List.length_cons]
    omega

theorem chain_mono {all all' : List (List UInt8)} (hl : all.length = all'.length) : ∀ {rs : List (List UInt8)} {a n e : Nat}, (∀ i, i < e → all[i]? = all'[i]?) → Chain all a n rs e → Chain all' a n rs e
  | [], a, n, e, _, h => h
  | p :: rs, a, n, e, he, ⟨k, h1, h2⟩ => by
    have hle := chain_le h2
    have hs := recB_some h1
    obtain ⟨hk, _⟩ := recB_k h1
    refine ⟨k, ?_, chain_mono hl he h2⟩
    rw [← h1]
    refine (recB_congr hl (he a (by omega)) fun i hi hi2 => he i ?_).symm
    rw [← hk] at hi2
    omega

theorem chain_snoc {all : List (List UInt8)} {p : List UInt8} {k : Nat} : ∀ {rs : List (List UInt8)} {a n e : Nat}, Chain all a n rs e → recB all e (n + rs.length) = some (p, k) → Chain all a n (rs ++ [p]) (e + k)
  | [], a, n, e, h, hr => by
    simp only [Chain] at h
    subst h
    exact ⟨k, hr, rfl⟩
  | q :: rs, a, n, e, ⟨k', h1, h2⟩, hr => by
    refine ⟨k', h1, chain_snoc h2 ?_⟩
    rw [List.length_cons] at hr
    rw [show n + 1 + rs.length = n + (rs.length + 1) from by omega]
    exact hr

theorem scan_chain {all : List (List UInt8)} : ∀ {rs : List (List UInt8)} {f a n e : Nat}, Chain all a n rs e → recB all e (n + rs.length) = none → all.length + 1 ≤ f + a → a ≤ all.length → scanB f all a n = (rs, e)
  | [], f, a, n, e, h, hr, hf, ha => by
    simp only [Chain] at h
    subst h
    obtain ⟨f, rfl⟩ : ∃ g, f = g + 1 := ⟨f - 1, by omega⟩
    rw [scanB]
    rw [show n + ([] : List (List UInt8)).length = n from rfl] at hr
    rw [hr]
  | q :: rs, f, a, n, e, ⟨k', h1, h2⟩, hr, hf, ha => by
    have hs := recB_some h1
    obtain ⟨f, rfl⟩ : ∃ g, f = g + 1 := ⟨f - 1, by omega⟩
    rw [scanB, h1]
    rw [List.length_cons] at hr
    have := scan_chain (f := f) h2 (by rw [show n + 1 + rs.length = n + (rs.length + 1) from by omega]; exact hr) (by omega) (by omega)
    dsimp only
    rw [this]

structure JInv (all rs : List (List UInt8)) (e m : Nat) : Prop where
  len : ∀ d ∈ all, d.length = 64
  ch : Chain all 0 0 rs e
  le : e ≤ all.length
  ep : ∀ d ∈ all, num4 d ≤ m
  no : ∀ d ∈ all, num4 d = 0 ∨ num4 (d.drop 4) ≤ rs.length
  stop : recB all e rs.length = none

theorem JInv.scan {all rs : List (List UInt8)} {e m : Nat} (h : JInv all rs e m) : scanB (all.length + 1) all 0 0 = (rs, e) :=
  scan_chain h.ch (by rw [Nat.zero_add]; exact h.stop) (by omega) (by omega)

theorem mostB_le : ∀ (l : List (List UInt8)) (k m : Nat), k ≤ m → (∀ d ∈ l, num4 d ≤ m) → mostB l k ≤ m
  | [], k, m, hk, _ => hk
  | d :: l, k, m, hk, h => by
    have := h d (by simp)
    exact mostB_le l _ m (by split <;> omega) fun x hx => h x (by simp [hx])

theorem mostB_ge : ∀ (l : List (List UInt8)) (k : Nat), k ≤ mostB l k ∧ ∀ d ∈ l, num4 d ≤ mostB l k
  | [], k => ⟨Nat.le_refl _, by simp⟩
  | d :: l, k => by
    obtain ⟨h1, h2⟩ := mostB_ge l (if k < num4 d then num4 d else k)
    rw [mostB]
    have h3 : k ≤ (if k < num4 d then num4 d else k) ∧ num4 d ≤ (if k < num4 d then num4 d else k) := by split <;> omega
    refine ⟨by omega, fun x hx => ?_⟩
    rcases List.mem_cons.1 hx with rfl | hx
    · omega
    · exact h2 x hx

/-- the epochs are below the next one -/
theorem JInv.most {all rs : List (List UInt8)} {e m : Nat} (h : JInv all rs e m) : mostB all 0 ≤ m ∧ JInv all rs e (mostB all 0) :=
  ⟨mostB_le _ _ _ (by omega) h.ep, h.len, h.ch, h.le, (mostB_ge all 0).2, h.no, h.stop⟩

theorem zero_num (n : Nat) : ∀ d ∈ List.replicate n zeroS, num4 d = 0 := by
  intro d hd
  rw [List.eq_of_mem_replicate hd]
  rfl

theorem inv_zero (n : Nat) : JInv (List.replicate n zeroS) [] 0 0 := by
  refine ⟨fun d hd => by rw [List.eq_of_mem_replicate hd]; rfl, rfl, by omega, fun d hd => by rw [zero_num n d hd]; omega, fun d hd => .inl (zero_num n d hd), ?_⟩
  unfold recB
  split
  · rfl
  · rename_i h
    have hz : num4 ((List.replicate n zeroS).getD 0 []) = 0 := by
      rw [List.getD_eq_getElem?_getD, List.getElem?_replicate, if_pos (by simp at h; omega)]
      rfl
    rw [if_pos (.inl hz)]

section
variable {all rs : List (List UInt8)} {e m ep : Nat} {b : List UInt8}

theorem mem_get {l : List (List UInt8)} {d : List UInt8} (h : d ∈ l) : ∃ i : Nat, l[i]? = some d := List.getElem?_of_mem h

theorem inv_write (h : JInv all rs e m) (hep : m < ep) (hep2 : ep < 4294967296) (hfit : e + (imageB b rs.length ep).length ≤ all.length) (hN : all.length ≤ 4096) (hrs : rs.length < 1000000) (hb : b.length < 1000000000) :
    JInv (setAll all e (imageB b rs.length ep)) (rs ++ [b]) (e + (imageB b rs.length ep).length) ep := by
  have hget := fun i => setAll_get (imageB b rs.length ep) all e i hfit
  have hlen := setAll_len (imageB b rs.length ep) all e
  have himg := imageB_get b rs.length ep
  have h64 := imageB_64 b rs.length ep
  have hslice : ((setAll all e (imageB b rs.length ep)).drop e).take (imageB b rs.length ep).length = imageB b rs.length ep := by
    apply List.ext_getElem?
    intro i
    rw [List.getElem?_take]
    split
    · rw [List.getElem?_drop, hget, if_pos (by omega), Nat.add_sub_cancel_left]
    · rw [List.getElem?_eq_none (by omega)]
  have hrec : recB (setAll all e (imageB b rs.length ep)) e rs.length = some (b, (imageB b rs.length ep).length) := recB_written hslice (by omega) (by omega) (by omega) hep2 hb
  have hsec : ∀ d ∈ setAll all e (imageB b rs.length ep), d ∈ all ∨ ∃ j, j < (imageB b rs.length ep).length ∧ d = secB ep rs.length j (imageB b rs.length ep).length (sealB b) := by
    intro d hd
    obtain ⟨i, hi⟩ := mem_get hd
    rw [hget] at hi
    split at hi
    · rename_i hc
      rw [himg _ (by omega)] at hi
      exact .inr ⟨i - e, by omega, (Option.some.inj hi).symm⟩
    · exact .inl (List.mem_of_getElem? hi)
  refine ⟨fun d hd => ?_, ?_, by omega, fun d hd => ?_, fun d hd => ?_, ?_⟩
  · rcases hsec d hd with hd | ⟨j, _, rfl⟩
    · exact h.len d hd
    · exact secB_64 ..
  · refine chain_snoc (chain_mono hlen.symm (fun i hi => ?_) h.ch) (by rw [Nat.zero_add]; exact hrec)
    rw [hget, if_neg (by omega)]
  · rcases hsec d hd with hd | ⟨j, _, rfl⟩
    · have := h.ep d hd; omega
    · rw [secB_ep hep2]; omega
  · rw [List.length_append, List.length_singleton]
    rcases hsec d hd with hd | ⟨j, _, rfl⟩
    · rcases h.no d hd with h0 | h0
      · exact .inl h0
      · exact .inr (by omega)
    · exact .inr (by rw [secB_no (by omega)]; omega)
  · rw [List.length_append, List.length_singleton]
    cases hr : recB (setAll all e (imageB b rs.length ep)) (e + (imageB b rs.length ep).length) (rs.length + 1) with
    | none => rfl
    | some pk =>
      exfalso
      obtain ⟨p, k⟩ := pk
      obtain ⟨r1, r2, r3, r4⟩ := recB_some hr
      obtain ⟨_, hz⟩ := recB_k hr
      obtain ⟨_, h0⟩ := recB_sec hr (j := 0) (by omega)
      have h1 := h0
      rw [Nat.add_zero, hget, if_neg (by omega)] at h1
      have hm := List.mem_of_getElem? h1
      have hlt := num4_lt ((setAll all e (imageB b rs.length ep)).getD (e + (imageB b rs.length ep).length) [])
      rcases h.no _ hm with hh | hh
      · rw [secB_ep hlt] at hh
        exact hz hh
      · rw [secB_no (by omega)] at hh
        omega

theorem inv_mix (h : JInv all rs e m) (hep : m < ep) (hep2 : ep < 4294967296) (hfit : e + (imageB b rs.length ep).length ≤ all.length) (hN : all.length ≤ 4096) (hrs : rs.length < 1000000)
    {mix : List (List UInt8)} (hl : mix.length = all.length) (hmix : ∀ i : Nat, mix[i]? = all[i]? ∨ mix[i]? = (setAll all e (imageB b rs.length ep))[i]?) (hne : mix ≠ setAll all e (imageB b rs.length ep)) : JInv mix rs e ep := by
  have hget := fun i => setAll_get (imageB b rs.length ep) all e i hfit
  have hlen := setAll_len (imageB b rs.length ep) all e
  have himg := imageB_get b rs.length ep
  have hsec : ∀ (i : Nat) (d : List UInt8), mix[i]? = some d → all[i]? = some d ∨ (e ≤ i ∧ i < e + (imageB b rs.length ep).length ∧ d = secB ep rs.length (i - e) (imageB b rs.length ep).length (sealB b)) := by
    intro i d hd
    rcases hmix i with hi | hi
    · rw [hi] at hd; exact .inl hd
    · rw [hi, hget] at hd
      split at hd
      · rename_i hc
        rw [himg _ (by omega)] at hd
        exact .inr ⟨hc.1, hc.2, (Option.some.inj hd).symm⟩
      · exact .inl hd
  refine ⟨fun d hd => ?_, ?_, by rw [hl]; exact h.le, fun d hd => ?_, fun d hd => ?_, ?_⟩
  · obtain ⟨i, hi⟩ := mem_get hd
    rcases hsec i d hi with hi | ⟨_, _, rfl⟩
    · exact h.len d (List.mem_of_getElem? hi)
    · exact secB_64 ..
  · refine chain_mono hl.symm (fun i hi => ?_) h.ch
    rcases hmix i with hi' | hi'
    · exact hi'.symm
    · rw [hi', hget, if_neg (by omega)]
  · obtain ⟨i, hi⟩ := mem_get hd
    rcases hsec i d hi with hi | ⟨_, _, rfl⟩
    · have := h.ep d (List.mem_of_getElem? hi); omega
    · rw [secB_ep hep2]; omega
  · obtain ⟨i, hi⟩ := mem_get hd
    rcases hsec i d hi with hi | ⟨_, _, rfl⟩
    · exact h.no d (List.mem_of_getElem? hi)
    · exact .inr (by rw [secB_no (by omega)]; omega)
  · cases hr : recB mix e rs.length with
    | none => rfl
    | some pk =>
      exfalso
      obtain ⟨p, k⟩ := pk
      obtain ⟨r1, r2, r3, r4⟩ := recB_some hr
      obtain ⟨hk, hz⟩ := recB_k hr
      have hlt := num4_lt (mix.getD e [])
      obtain ⟨_, h0⟩ := recB_sec hr (j := 0) (by omega)
      have hs := fun j (hj : j < k) => (recB_sec hr hj).2
      generalize hep' : num4 (mix.getD e []) = ep' at *
      rcases hsec _ _ h0 with hold | ⟨_, _, hnew⟩
      · -- its first sector is an old one: so are all
        have hep3 : ep' ≤ m := by
          have := h.ep _ (List.mem_of_getElem? hold)
          rwa [secB_ep hlt] at this
        have hall : ∀ i, e ≤ i → i < e + k → mix[i]? = all[i]? := by
          intro i hi1 hi2
          have h1 := hs (i - e) (by omega)
          rw [show e + (i - e) = i from by omega] at h1
          rcases hsec _ _ h1 with h2 | ⟨_, _, h2⟩
          · rw [h1, h2]
          · have := congrArg num4 h2
            rw [secB_ep hlt, secB_ep hep2] at this
            omega
        have : recB mix e rs.length = recB all e rs.length := recB_congr hl (hall e (by omega) (by omega)) fun i hi1 hi2 => hall i hi1 (by rw [← hk] at hi2; exact hi2)
        rw [hr, h.stop] at this
        cases this
      · -- its first sector is a new one: so are all
        have hep3 : ep' = ep := by
          have := congrArg num4 hnew
          rwa [secB_ep hlt, secB_ep hep2] at this
        have hkk : k = (imageB b rs.length ep).length := by
          have h1 : mix.getD e [] = secB ep' rs.length 0 k (sealB p) := by
            rw [Nat.add_zero] at h0
            rw [List.getD_eq_getElem?_getD, h0]; rfl
          have h2 := congrArg recB.num2 hnew
          rw [secB_cnt (by omega), secB_cnt (by omega)] at h2
          exact h2
        apply hne
        apply List.ext_getElem?
        intro i
        rcases hmix i with hi | hi
        · rw [hget]
          split
          · rename_i hc
            have h1 := hs (i - e) (by omega)
            rw [show e + (i - e) = i from by omega] at h1
            rcases hsec _ _ h1 with h2 | ⟨_, _, h2⟩
            · exfalso
              have := h.ep _ (List.mem_of_getElem? h2)
              rw [secB_ep hlt] at this
              omega
            · rw [h1, h2, himg _ (by omega)]
          · exact hi
        · exact hi

/-- at least one sector has changed -/
theorem inv_changed (h : JInv all rs e m) (hep : m < ep) (hep2 : ep < 4294967296) (hfit : e + (imageB b rs.length ep).length ≤ all.length) : ∃ i : Nat, i < all.length ∧ all[i]? ≠ (setAll all e (imageB b rs.length ep))[i]? := by
  have hpos : 0 < (imageB b rs.length ep).length := by
    rw [imageB_len]
    unfold cntB
    have : 4 ≤ (sealB b).length := by simp [sealB, sumB]; omega
    omega
  refine ⟨e, by omega, fun h0 => ?_⟩
  rw [setAll_get _ _ _ _ hfit, if_pos (by omega), Nat.sub_self, imageB_get _ _ _ _ hpos] at h0
  have := h.ep _ (List.mem_of_getElem? h0)
  rw [secB_ep hep2] at this
  omega
end
end Go.Am

/- Walks: both disks side by side. -/
set_option linter.unusedVariables false
set_option linter.unusedSimpArgs false
set_option maxRecDepth 10000
namespace Go.Am
open Go.Proofs

abbrev Pe := List (Int × List UInt8)

def shOK (sh : Option Nat) (pe : Pe) : Prop := (sh = none ∧ pe = []) ∨ ∃ v2, sh = some v2 ∧ pe ≠ []
def pvC (id : Id) (sh : Option Nat) (pe : Pe) : AVal := match sh with
  | none => .nils
  | some v2 => .rsl id v2 2 0 pe.length
def poC (sh : Option Nat) (pe : Pe) : List Obj := match sh with
  | none => []
  | some v2 => [.arr 2 v2 false (pe.map pnd)]

theorem shOK.pend {sh : Option Nat} {pe : Pe} (h : shOK sh pe) : Pend pe (pvC (0, 2) sh pe) (poC sh pe) := by
  rcases h with ⟨rfl, rfl⟩ | ⟨v2, rfl, _⟩
  · exact .inl ⟨rfl, rfl, rfl⟩
  · exact .inr ⟨v2, rfl, rfl⟩

def dskC (v : Nat) (du : List (List UInt8)) (cr op : Int) (sh : Option Nat) (pe : Pe) : List Obj := dsk v du cr op (pvC (0, 2) sh pe) (poC sh pe)

/-- a disk's state is in order -/
structure DOK (n : Nat) (du : List (List UInt8)) (pe : Pe) (m : Nat) : Prop where
  len : du.length = n
  n4 : n ≤ 4096
  h64 : ∀ d ∈ du, d.length = 64
  p64 : ∀ w ∈ pe, w.2.length = 64
  pin : ∀ w ∈ pe, 0 ≤ w.1 ∧ w.1 < n
  pl : pe.length ≤ m

def wrE (n : Nat) (i : Int) (b : List UInt8) : Int := if i < 0 ∨ (n : Int) ≤ i then 2 else if b.length ≠ 64 then 1 else 0
def wrP (n : Nat) (pe : Pe) (i : Int) (b : List UInt8) : Pe := if i < 0 ∨ (n : Int) ≤ i ∨ b.length ≠ 64 then pe else pe ++ [(i, b)]

theorem wr_nil {n : Nat} {pe : Pe} {i : Int} {b : List UInt8} (h : wrP n pe i b = []) : pe = [] := by
  unfold wrP at h
  split at h
  · exact h
  · simp at h

theorem wr_ok {n m : Nat} {du : List (List UInt8)} {pe : Pe} (h : DOK n du pe m) (i : Int) (b : List UInt8) : DOK n du (wrP n pe i b) (m + 1) := by
  unfold wrP
  split
  · exact ⟨h.len, h.n4, h.h64, h.p64, h.pin, by have := h.pl; omega⟩
  · rename_i hc
    refine ⟨h.len, h.n4, h.h64, fun w hw => ?_, fun w hw => ?_, by have := h.pl; simp; omega⟩
    · rcases List.mem_append.1 hw with hw | hw
      · exact h.p64 w hw
      · simp at hw; subst hw
        by_cases h64 : b.length = 64
        · exact h64
        · exact absurd (.inr (.inr h64)) hc
    · rcases List.mem_append.1 hw with hw | hw
      · exact h.pin w hw
      · simp at hw; subst hw
        constructor
        · show 0 ≤ i
          by_cases h0 : i < 0
          · exact absurd (.inl h0) hc
          · omega
        · show i < n
          by_cases h0 : (n : Int) ≤ i
          · exact absurd (.inr (.inl h0)) hc
          · omega

theorem syncS_mem : ∀ (pe : Pe) (du : List (List UInt8)), (∀ d ∈ du, d.length = 64) → (∀ w ∈ pe, w.2.length = 64) → ∀ d ∈ syncS pe du, d.length = 64
  | [], du, h1, _ => h1
  | w :: r, du, h1, h2 => by
    refine syncS_mem r _ (fun d hd => ?_) (fun w hw => h2 w (by simp [hw]))
    rcases List.mem_or_eq_of_mem_set hd with hd | rfl
    · exact h1 d hd
    · exact h2 w (by simp)
theorem crashW_mem (keep : List Int) : ∀ (pe : Pe) (k : Nat) (du : List (List UInt8)), (∀ d ∈ du, d.length = 64) → (∀ w ∈ pe, w.2.length = 64) → ∀ d ∈ crashW keep k pe du, d.length = 64
  | [], k, du, h1, _ => h1
  | w :: r, k, du, h1, h2 => by
    refine crashW_mem keep r _ _ (fun d hd => ?_) (fun w hw => h2 w (by simp [hw]))
    split at hd
    · rcases List.mem_or_eq_of_mem_set hd with hd | rfl
      · exact h1 d hd
      · exact h2 w (by simp)
    · exact h1 d hd

theorem sync_ok {n m : Nat} {du : List (List UInt8)} {pe : Pe} (h : DOK n du pe m) : DOK n (syncS pe du) [] m :=
  ⟨by rw [syncS_len, h.len], h.n4, syncS_mem pe du h.h64 h.p64, by simp, by simp, by simp⟩
theorem crash_ok {n m : Nat} {du : List (List UInt8)} {pe : Pe} (h : DOK n du pe m) (keep : List Int) : DOK n (crashW keep 0 pe du) [] m :=
  ⟨by rw [crashW_len, h.len], h.n4, crashW_mem keep pe 0 du h.h64 h.p64, by simp, by simp, by simp⟩

section
variable {n m v : Nat} {du : List (List UInt8)} {pe : Pe} {cr op : Int} {sh : Option Nat}

theorem write_c (h : DOK n du pe m) (hm : m < 1000000) (hs : shOK sh pe) (i : Int) (b : List UInt8) :
    ∃ sh', shOK sh' (wrP n pe i b) ∧ KJ 15 [.ref (0, 0) 0, .dat (.int .i64 i), .dat (.sl (b.map B))] (dskC v du cr op sh pe) = some (.dat (.int .i64 (wrE n i b)), dskC v du cr op sh' (wrP n pe i b)) := by
  by_cases hc : i < 0 ∨ (n : Int) ≤ i ∨ b.length ≠ 64
  · obtain ⟨e, h1, h2⟩ := write_bad (v := v) (cr := cr) (op := op) (du := du) hs.pend (i := i) (b := b) (by rw [h.len]; exact hc)
    refine ⟨sh, by rw [wrP, if_pos hc]; exact hs, ?_⟩
    rw [wrP, if_pos hc, dskC, h1, h2, h.len]
    congr 4
    unfold wrE
    split
    · rfl
    · rename_i h3
      rw [if_pos]
      rcases hc with hc | hc | hc
      · exact absurd (.inl hc) h3
      · exact absurd (.inr hc) h3
      · exact hc
  · have h0 : 0 ≤ i := by
      by_cases h0 : i < 0
      · exact absurd (.inl h0) hc
      · omega
    have h1 : i < n := by
      by_cases h1 : (n : Int) ≤ i
      · exact absurd (.inr (.inl h1)) hc
      · omega
    have h2 : b.length = 64 := by
      by_cases h2 : b.length = 64
      · exact h2
      · exact absurd (.inr (.inr h2)) hc
    have hi : ((i.toNat : Nat) : Int) = i := by omega
    obtain ⟨v2, hw⟩ := write_run (v := v) (cr := cr) (op := op) (du := du) hs.pend (by have := h.pl; omega) (i := i.toNat) (by have := h.len; omega) h2
    rw [hi] at hw
    refine ⟨some v2, .inr ⟨v2, rfl, by rw [wrP, if_neg hc]; simp⟩, ?_⟩
    rw [wrP, if_neg hc, dskC, hw, wrE, if_neg (by omega), if_neg (by simp [h2])]
    simp [dskC, pvC, poC]

theorem rwrite_c (h : DOK n du pe m) (hm : m < 1000000) (hs : shOK sh pe) (i : Int) (b : List UInt8) :
    ∃ sh', shOK sh' (wrP n pe i b) ∧ KJ 20 [.ref (0, 0) 0, .dat (.int .i64 i), .dat (.sl (b.map B))] (dskC v du cr op sh pe) = some (.dat (.int .i64 (wrE n i b)), dskC v du cr op sh' (wrP n pe i b)) := by
  by_cases hc : i < 0 ∨ (n : Int) ≤ i ∨ b.length ≠ 64
  · obtain ⟨e, h1, h2⟩ := rwrite_bad (v := v) (cr := cr) (op := op) (du := du) hs.pend (i := i) (b := b) (by rw [h.len]; exact hc)
    refine ⟨sh, by rw [wrP, if_pos hc]; exact hs, ?_⟩
    rw [wrP, if_pos hc, dskC, h1, h2, h.len]
    congr 4
    unfold wrE
    split
    · rfl
    · rename_i h3
      rw [if_pos]
      rcases hc with hc | hc | hc
      · exact absurd (.inl hc) h3
      · exact absurd (.inr hc) h3
      · exact hc
  · have h0 : 0 ≤ i := by
      by_cases h0 : i < 0
      · exact absurd (.inl h0) hc
      · omega
    have h1 : i < n := by
      by_cases h1 : (n : Int) ≤ i
      · exact absurd (.inr (.inl h1)) hc
      · omega
    have h2 : b.length = 64 := by
      by_cases h2 : b.length = 64
      · exact h2
      · exact absurd (.inr (.inr h2)) hc
    have hi : ((i.toNat : Nat) : Int) = i := by omega
    obtain ⟨v2, hw⟩ := rwrite_run (v := v) (cr := cr) (op := op) (du := du) hs.pend (by have := h.pl; omega) (i := i.toNat) (by have := h.len; omega) h2
    rw [hi] at hw
    refine ⟨some v2, .inr ⟨v2, rfl, by rw [wrP, if_neg hc]; simp⟩, ?_⟩
    rw [wrP, if_neg hc, dskC, hw, wrE, if_neg (by omega), if_neg (by simp [h2])]
    simp [dskC, pvC, poC]

theorem sync_c (h : DOK n du pe m) (hm : m < 1000000) (hs : shOK sh pe) : KJ 16 [.ref (0, 0) 0] (dskC v du cr op sh pe) = some (.dat (.int .i64 0), dsk v (syncS pe du) cr op .nils (poC sh pe)) := by
  rcases hs with ⟨rfl, rfl⟩ | ⟨v2, rfl, _⟩
  · exact sync_none v du cr op
  · exact sync_run v v2 du cr op pe (by rw [h.len]; exact h.pin) (by have := h.pl; omega)
theorem rsync_c (h : DOK n du pe m) (hm : m < 1000000) (hs : shOK sh pe) : KJ 21 [.ref (0, 0) 0] (dskC v du cr op sh pe) = some (.dat (.int .i64 0), dsk v (syncS pe du) cr op .nils (poC sh pe)) := by
  rcases hs with ⟨rfl, rfl⟩ | ⟨v2, rfl, _⟩
  · exact rsync_none v du cr op
  · exact rsync_run v v2 du cr op pe (by rw [h.len]; exact h.pin) (by have := h.pl; omega)

/-- what both disks read -/
theorem reads_c {v' : Nat} {cr' op' : Int} {sh' : Option Nat} (h : DOK n du pe m) (hm : m < 1000000) (hs : shOK sh pe) (hs' : shOK sh' pe) (i : Int) :
    ∃ (X : List UInt8) (e : Int), KJ 24 [.ref (0, 0) 0, .dat (.int .i64 i)] (dskC v du cr op sh pe) = some (.tup [.dat (.sl (X.map B)), .dat (.int .i64 e)], dskC v du cr op sh pe) ∧
      KJ 25 [.ref (0, 0) 0, .dat (.int .i64 i)] (dskC v' du cr' op' sh' pe) = some (.tup [.dat (.sl (X.map B)), .dat (.int .i64 e)], dskC v' du cr' op' sh' pe) := by
  by_cases hi : i < 0 ∨ (du.length : Int) ≤ i
  · exact ⟨[], 2, read_out hs.pend hi, rread_out hs'.pend hi⟩
  · have e : ((i.toNat : Nat) : Int) = i := by omega
    have h1 := read_run (v := v) (cr := cr) (op := op) (du := du) hs.pend (by have := h.pl; omega) h.h64 h.p64 (i := i.toNat) (by omega)
    have h2 := rread_run (v := v') (cr := cr') (op := op') (du := du) hs'.pend (by have := h.pl; omega) h.h64 h.p64 (i := i.toNat) (by omega)
    rw [e] at h1 h2
    exact ⟨_, _, h1, h2⟩
end
end Go.Am

/- Walks: a record is appended, whatever is pending. -/
set_option linter.unusedVariables false
set_option linter.unusedSimpArgs false
set_option maxRecDepth 10000
namespace Go.Am
open Go.Proofs

/-- the records' slice of a journal in the objects of a call -/
def rcV (rs : List (List UInt8)) : Option Nat → AVal
  | none => .nils
  | some vr => .rsl (0, 2) vr 1 0 rs.length
def rcO (rs : List (List UInt8)) : Option Nat → List Obj
  | none => []
  | some vr => [.arr 1 vr false (rs.map Bs)]
def rcK (rs : List (List UInt8)) (r : Option Nat) : Prop := (r = none ∧ rs = []) ∨ ∃ vr, r = some vr
def dN : Option Nat → Nat
  | none => 2
  | some _ => 3
def jobs (jb : Obj) (v : Nat) (du : List (List UInt8)) (cr op : Int) (r : Option Nat) (rs : List (List UInt8)) (sh : Option Nat) (pe : Pe) : List Obj :=
  jb :: dskB (.rsl (0, dN r) v 1 0 du.length) (pvC (0, dN r + 1) sh pe) cr op :: (rcO rs r ++ .arr 1 v false (du.map Bs) :: poC sh pe)

/-- the ids of a call's objects -/
structure JSp where
  rv : AVal
  ro : Store
  did : Id
  pid : Id

def JSpOK (rs : List (List UInt8)) (pe0 : Pe) (j : JSp) : Prop :=
  (rs = [] ∧ pe0 = [] ∧ j = ⟨.nils, [], (0, 2), (1, 3)⟩) ∨ (∃ vr, pe0 = [] ∧ j = ⟨.rsl (0, 2) vr 1 0 rs.length, [((0, 2), .arr 1 vr false (rs.map Bs))], (0, 3), (1, 4)⟩) ∨
  (rs = [] ∧ pe0 ≠ [] ∧ j = ⟨.nils, [], (0, 2), (0, 3)⟩) ∨ (∃ vr, pe0 ≠ [] ∧ j = ⟨.rsl (0, 2) vr 1 0 rs.length, [((0, 2), .arr 1 vr false (rs.map Bs))], (0, 3), (0, 4)⟩)

def jstp (jb : Obj) (j : JSp) (v : Nat) (du : List (List UInt8)) (cr op : Int) (pv : AVal) (ps : Store) : Store :=
  ((0, 0), jb) :: ((0, 1), dskB (.rsl j.did v 1 0 du.length) pv cr op) :: (j.ro ++ (j.did, .arr 1 v false (du.map Bs)) :: ps)

def appP (j : JSp) (v : Nat) (du : List (List UInt8)) (cr op : Int) (next ep : Nat) (b : List UInt8) (pe0 : Pe) (W : List (List UInt8)) (q : AEx × St) : Prop := q.1 = .exit 0 ∧ ∃ pv ps, PendI j.pid (pe0 ++ wrs W next) pv ps ∧
  hd [0, 1, 5] [] q.2 = some ⟨[(0, .ref (0, 0) 0), (1, .dat (Bs b)), (5, .dat (.sl (W.map Bs)))], jstp (jouA j.rv next ep cr op) j v du cr op pv ps⟩

theorem appP_loop {rs : List (List UInt8)} {pe0 : Pe} {j : JSp} (hj : JSpOK rs pe0 j) (v : Nat) (du : List (List UInt8)) (cr op : Int) (next ep : Nat) (b : List UInt8) (hdl : du.length ≤ 4096) (hpl : pe0.length < 1000000) :
    ∀ (rest pre : List (List UInt8)) (pv : AVal) (ps : Store) (s : St), (∀ d ∈ rest, d.length = 64) → next + pre.length + rest.length ≤ du.length → PendI j.pid (pe0 ++ wrs pre next) pv ps →
    hd [0, 1, 5, 65, 66, 67] [0, 1, 5, 65] s = some ⟨[(0, .ref (0, 0) 0), (1, .dat (Bs b)), (5, .dat (.sl ((pre ++ rest).map Bs))), (65, .dat (.sl ((pre ++ rest).map Bs))), (66, .dat (.int .i64 (pre ++ rest).length)), (67, .dat (.int .i64 pre.length))], jstp (jouA j.rv next ep cr op) j v du cr op pv ps⟩ →
    Ev (loopLim (exec KJ l13_0) s) (appP j v du cr op next ep b pe0 (pre ++ rest)) := by
  intro rest
  induction rest with
  | nil =>
    intro pre pv ps s h64 hle hp hs
    apply ev_loop
    have hA : appP j v du cr op next ep b pe0 (pre ++ []) = fun q : AEx × St => q.1 = .exit 0 ∧ ∃ pv ps, PendI j.pid (pe0 ++ wrs pre next) pv ps ∧
      hd [0, 1, 5] [] q.2 = some ⟨[(0, .ref (0, 0) 0), (1, .dat (Bs b)), (5, .dat (.sl (pre.map Bs)))], jstp (jouA j.rv next ep cr op) j v du cr op pv ps⟩ := by
      rw [List.append_nil]; rfl
    rw [hA]
    generalize hP : pe0 ++ wrs pre next = P at *
    rcases hj with ⟨rfl, hz, rfl⟩ | ⟨vr, hz, rfl⟩ | ⟨rfl, hz, rfl⟩ | ⟨vr, hz, rfl⟩ <;> rcases hp with ⟨rfl, rfl, h0⟩ | ⟨v2, rfl, rfl⟩
    all_goals
      simp [hs, jstp, dskB, jouA]
      first
      | exact .inl ⟨rfl, rfl, h0⟩
      | exact .inr ⟨v2, rfl, rfl⟩
  | cons d rest ih =>
    intro pre pv ps s h64 hle hp hs
    apply ev_loop
    rw [List.length_cons] at hle
    have hx : Ix pre.length := by unfold Ix; omega
    have hd64 := h64 d (by simp)
    have ha1 : (next : Int) + pre.length < 1000000000000000 := by omega
    have ha2 : -1000000000000000 < (next : Int) + pre.length := by omega
    have hwl := wrs_len pre next
    have e1 : pre ++ d :: rest = (pre ++ [d]) ++ rest := by simp
    rw [e1]
    have ih2 := ih (pre ++ [d])
    rw [wrs_snoc, ← List.append_assoc] at ih2
    generalize hQ : appP j v du cr op next ep b pe0 (pre ++ [d] ++ rest) = Q at ih2 ⊢
    have hPl : (pe0 ++ wrs pre next).length < 1000000000 := by rw [List.length_append]; omega
    generalize hP : pe0 ++ wrs pre next = P at *
    rcases hp with ⟨rfl, rfl, h0⟩ | ⟨v2, rfl, rfl⟩
    · obtain ⟨v3, hw⟩ := write_run (v := v) (du := du) (cr := cr) (op := op) (pe := []) (.inl ⟨rfl, rfl, rfl⟩) (by simp) (i := next + pre.length) (by omega) hd64
      rw [h0] at ih2
      simp [dsk, dskB] at hw
      rcases hj with ⟨rfl, hz, rfl⟩ | ⟨vr, hz, rfl⟩ | ⟨rfl, hz, rfl⟩ | ⟨vr, hz, rfl⟩
      · simp [hs, jstp, dskB, jouA, hx, ha1, ha2, hw]
        refine Ev.mono (ih2 _ _ _ (fun x hx => h64 x (by simp [hx])) (by simp; omega) (.inr ⟨v3, rfl, rfl⟩) (by simp [jstp, dskB, jouA])) (fun _ h => h)
      · simp [hs, jstp, dskB, jouA, hx, ha1, ha2, hw]
        refine Ev.mono (ih2 _ _ _ (fun x hx => h64 x (by simp [hx])) (by simp; omega) (.inr ⟨v3, rfl, rfl⟩) (by simp [jstp, dskB, jouA])) (fun _ h => h)
      · exact absurd (List.append_eq_nil_iff.1 (hP.trans h0)).1 hz
      · exact absurd (List.append_eq_nil_iff.1 (hP.trans h0)).1 hz
    · obtain ⟨v3, hw⟩ := write_run (v := v) (du := du) (cr := cr) (op := op) (pe := P) (.inr ⟨v2, rfl, rfl⟩) (by omega) (i := next + pre.length) (by omega) hd64
      simp [dsk, dskB] at hw
      rcases hj with ⟨rfl, hz, rfl⟩ | ⟨vr, hz, rfl⟩ | ⟨rfl, hz, rfl⟩ | ⟨vr, hz, rfl⟩
      all_goals
        simp [hs, jstp, dskB, jouA, hx, ha1, ha2, hw]
        refine Ev.mono (ih2 _ _ _ (fun x hx => h64 x (by simp [hx])) (by simp; omega) (.inr ⟨v3, rfl, rfl⟩) (by simp [jstp, dskB, jouA])) (fun _ h => h)
end Go.Am

/- Walks: a record is appended, whatever is pending: the whole function. -/
set_option linter.unusedVariables false
set_option linter.unusedSimpArgs false
set_option maxRecDepth 10000
namespace Go.Am
open Go.Proofs

theorem syncS_app : ∀ (a b : Pe) (du : List (List UInt8)), syncS (a ++ b) du = syncS b (syncS a du)
  | [], b, du => rfl
  | w :: a, b, du => by rw [List.cons_append, syncS, syncS_app a b, syncS]

theorem wrs_bnd {du : List (List UInt8)} {pe : Pe} {W : List (List UInt8)} {next : Nat} (hpe : ∀ w ∈ pe, 0 ≤ w.1 ∧ w.1 < du.length) (hf : next + W.length ≤ du.length) : ∀ w ∈ pe ++ wrs W next, 0 ≤ w.1 ∧ w.1 < du.length := by
  intro w hw
  rcases List.mem_append.1 hw with hw | hw
  · exact hpe w hw
  · exact wrs_in W next du.length hf w hw

section
variable {v : Nat} {du rs : List (List UInt8)} {cr op jcr jop : Int} {r sh : Option Nat} {pe : Pe} {next ep : Nat} {b : List UInt8}

theorem jvalid_p (hr : rcK rs r) (hs : shOK sh pe) : KJ 39 [.ref (0, 0) 0] (jobs (jouA (rcV rs r) next ep jcr jop) v du cr op r rs sh pe) = some (.dat (.bool true), jobs (jouA (rcV rs r) next ep jcr jop) v du cr op r rs sh pe) := by
  refine callT_ev (fn := fn39) rfl rfl ?_
  rcases hr with ⟨rfl, rfl⟩ | ⟨vr, rfl⟩ <;> rcases hs with ⟨rfl, rfl⟩ | ⟨v2, rfl, hz⟩ <;> simp [runFun_eq, jobs, jouA, dskB, rcV, rcO, dN, pvC, poC]

theorem appP_crash (hr : rcK rs r) (hs : shOK sh pe) (h : ¬ cr = jcr) :
    KJ 13 [.ref (0, 0) 0, .dat (Bs b)] (jobs (jouA (rcV rs r) next ep jcr jop) v du cr op r rs sh pe) = some (.dat (.int .i64 25), jobs (jouA (rcV rs r) next ep jcr jop) v du cr op r rs sh pe) := by
  refine callT_ev (fn := fn13) rfl rfl ?_
  have hv := jvalid_p (v := v) (du := du) (cr := cr) (op := op) (jcr := jcr) (jop := jop) (next := next) (ep := ep) hr hs
  rcases hr with ⟨rfl, rfl⟩ | ⟨vr, rfl⟩ <;> rcases hs with ⟨rfl, rfl⟩ | ⟨v2, rfl, hz⟩
  all_goals
    simp [jobs, jouA, dskB, rcV, rcO, dN, pvC, poC] at hv
    simp [runFun_eq, jobs, jouA, dskB, rcV, rcO, dN, pvC, poC, hv, h]

theorem appP_state (hr : rcK rs r) (hs : shOK sh pe) (h : ¬ op = jop) :
    KJ 13 [.ref (0, 0) 0, .dat (Bs b)] (jobs (jouA (rcV rs r) next ep cr jop) v du cr op r rs sh pe) = some (.dat (.int .i64 30), jobs (jouA (rcV rs r) next ep cr jop) v du cr op r rs sh pe) := by
  refine callT_ev (fn := fn13) rfl rfl ?_
  have hv := jvalid_p (v := v) (du := du) (cr := cr) (op := op) (jcr := cr) (jop := jop) (next := next) (ep := ep) hr hs
  rcases hr with ⟨rfl, rfl⟩ | ⟨vr, rfl⟩ <;> rcases hs with ⟨rfl, rfl⟩ | ⟨v2, rfl, hz⟩
  all_goals
    simp [jobs, jouA, dskB, rcV, rcO, dN, pvC, poC] at hv
    simp [runFun_eq, jobs, jouA, dskB, rcV, rcO, dN, pvC, poC, hv, h]

theorem appP_full (hr : rcK rs r) (hs : shOK sh pe) (hdl : du.length ≤ 4096) (hn : next ≤ du.length) (hep : ep < 4294967296) (hb : b.length < 100000) (hrs : rs.length < 100000)
    (hf : ¬ next + (imageB b rs.length ep).length ≤ du.length) :
    KJ 13 [.ref (0, 0) 0, .dat (Bs b)] (jobs (jouA (rcV rs r) next ep cr op) v du cr op r rs sh pe) = some (.dat (.int .i64 24), jobs (jouA (rcV rs r) next ep cr op) v du cr op r rs sh pe) := by
  refine callT_ev (fn := fn13) rfl rfl ?_
  have hv := jvalid_p (v := v) (du := du) (cr := cr) (op := op) (jcr := cr) (jop := op) (next := next) (ep := ep) hr hs
  have hi := image_run b rs.length ep (by omega) (by omega) hep
  have hm : (rs.length : Int) % 4294967296 = rs.length := by omega
  generalize imageB b rs.length ep = W at *
  have a1 : (du.length : Int) - next < 1000000000000000 := by omega
  have a2 : -1000000000000000 < (du.length : Int) - next := by omega
  have a3 : (du.length : Int) - next < W.length := by omega
  rcases hr with ⟨rfl, rfl⟩ | ⟨vr, rfl⟩ <;> rcases hs with ⟨rfl, rfl⟩ | ⟨v2, rfl, hz⟩
  all_goals
    simp [jobs, jouA, dskB, rcV, rcO, dN, pvC, poC] at hv hi
    simp [runFun_eq, jobs, jouA, dskB, rcV, rcO, dN, pvC, poC, hv, hi, a1, a2, a3, hm]

/-- what is left of the pending writes -/
def Stale (sh : Option Nat) (po : List Obj) : Prop := (sh = none ∧ po = []) ∨ ∃ v2 w l, sh = some v2 ∧ po = [.arr 2 w false l]

/-- the objects behind an append -/
def jobs2 (jb : AVal → Obj) (v : Nat) (du : List (List UInt8)) (cr op : Int) (r : Option Nat) (rs : List (List UInt8)) (po : List Obj) : List Obj :=
  match r with
  | none => jb (.rsl (0, 3 + po.length) 0 1 0 rs.length) :: dskB (.rsl (0, 2) v 1 0 du.length) .nils cr op :: .arr 1 v false (du.map Bs) :: (po ++ [.arr 1 0 false (rs.map Bs)])
  | some vr => jb (.rsl (0, 2) (vr + 1) 1 0 rs.length) :: dskB (.rsl (0, 3) v 1 0 du.length) .nils cr op :: .arr 1 (vr + 1) false (rs.map Bs) :: .arr 1 v false (du.map Bs) :: po

theorem appP_ok (hr : rcK rs r) (hs : shOK sh pe) (hpe : ∀ w ∈ pe, 0 ≤ w.1 ∧ w.1 < du.length) (hpl : pe.length < 1000000) (hdl : du.length ≤ 4096) (hn : next ≤ du.length) (hep : ep < 4294967296) (hb : b.length < 100000) (hrs : rs.length < 100000)
    (hf : next + (imageB b rs.length ep).length ≤ du.length) :
    ∃ po, Stale sh po ∧ KJ 13 [.ref (0, 0) 0, .dat (Bs b)] (jobs (jouA (rcV rs r) next ep cr op) v du cr op r rs sh pe) =
      some (.dat (.int .i64 0), jobs2 (fun x => jouA x (next + (imageB b rs.length ep).length) ep cr op) v (setAll (syncS pe du) next (imageB b rs.length ep)) cr op r (rs ++ [b]) po) := by
  have key : Ev (runFun KJ fn13 [.ref (0, 0) 0, .dat (Bs b)] (jobs (jouA (rcV rs r) next ep cr op) v du cr op r rs sh pe)) fun q => ∃ po, Stale sh po ∧ q =
      (.dat (.int .i64 0), jobs2 (fun x => jouA x (next + (imageB b rs.length ep).length) ep cr op) v (setAll (syncS pe du) next (imageB b rs.length ep)) cr op r (rs ++ [b]) po) := by
    have hv := jvalid_p (v := v) (du := du) (cr := cr) (op := op) (jcr := cr) (jop := op) (next := next) (ep := ep) hr hs
    have hi := image_run b rs.length ep (by omega) (by omega) hep
    have h64 := imageB_64 b rs.length ep
    have hc := clone_run b (by omega)
    have hlp := fun j (hj : JSpOK rs pe j) pv ps s hpv h => appP_loop hj v du cr op next ep b hdl hpl (imageB b rs.length ep) [] pv ps s h64 (by simp; omega) hpv h
    have hin := wrs_bnd hpe hf
    have hwl := wrs_len (imageB b rs.length ep) next
    have hsw := sync_wrs (imageB b rs.length ep) next (syncS pe du)
    rw [← syncS_app] at hsw
    have hm : (rs.length : Int) % 4294967296 = rs.length := by omega
    have hrr : (rs.length + 1) * 25 ≤ 1099511627776 := by omega
    have hal : (setAll (syncS pe du) next (imageB b rs.length ep)).length = du.length := by rw [setAll_len, syncS_len]
    simp only [List.nil_append, wrs, List.append_nil] at hlp
    generalize imageB b rs.length ep = W at *
    generalize hD : setAll (syncS pe du) next W = D at *
    obtain ⟨a1, a2, a3, a4, a5⟩ := app_arith hn hdl hf
    have hPl : (pe ++ wrs W next).length < 1000000000 := by rw [List.length_append]; omega
    generalize hP : pe ++ wrs W next = P at *
    generalize hQ : (fun q => ∃ po, Stale sh po ∧ q = (AVal.dat (.int .i64 0), jobs2 (fun x => jouA x (next + W.length) ep cr op) v D cr op r (rs ++ [b]) po)) = Q
    rcases hr with ⟨rfl, rfl⟩ | ⟨vr, rfl⟩ <;> rcases hs with ⟨rfl, rfl⟩ | ⟨v2, rfl, hz⟩
    · simp [jobs, jouA, dskB, rcV, rcO, dN, pvC, poC] at hv hi
      simp [runFun_eq, jobs, jouA, dskB, rcV, rcO, dN, pvC, poC, hv, hi, a1, a2, a3, hm]
      simp only [ev_bnd_iff]
      refine Ev.mono (hlp ⟨.nils, [], (0, 2), (1, 3)⟩ (.inl ⟨rfl, rfl, rfl⟩) .nils [] _ (.inl ⟨rfl, rfl, rfl⟩) (by simp [jstp, jouA, dskB])) ?_
      rintro ⟨_, s⟩ ⟨rfl, pv, ps, hp, hs⟩
      dsimp only at hs hp
      rw [hP] at hp
      rcases hp with ⟨rfl, rfl, h0⟩ | ⟨v3, rfl, rfl⟩
      · have hsy := sync_none v du cr op
        subst h0
        simp [dsk, dskB] at hsy
        simp [syncS] at hsw
        subst hsw
        simp [hs, jstp, dskB, jouA, hsy, hc, a4, a5]
        rw [← hQ]
        exact ⟨[], .inl ⟨rfl, rfl⟩, by simp [jobs2, jouA, dskB]⟩
      · have hsy := sync_run v v3 du cr op P hin (by omega)
        simp [dsk, dskB, hsw, hal] at hsy
        simp [hs, jstp, dskB, jouA, hsy, hc, a4, a5, hal]
        rw [← hQ]
        exact ⟨[], .inl ⟨rfl, rfl⟩, by simp [jobs2, jouA, dskB, hal]⟩
    · simp [jobs, jouA, dskB, rcV, rcO, dN, pvC, poC] at hv hi
      simp [runFun_eq, jobs, jouA, dskB, rcV, rcO, dN, pvC, poC, hv, hi, a1, a2, a3, hm]
      simp only [ev_bnd_iff]
      refine Ev.mono (hlp ⟨.nils, [], (0, 2), (0, 3)⟩ (.inr (.inr (.inl ⟨rfl, hz, rfl⟩))) (.rsl (0, 3) v2 2 0 pe.length) [((0, 3), .arr 2 v2 false (pe.map pnd))] _ (.inr ⟨v2, rfl, rfl⟩) (by simp [jstp, jouA, dskB])) ?_
      rintro ⟨_, s⟩ ⟨rfl, pv, ps, hp, hs⟩
      dsimp only at hs hp
      rw [hP] at hp
      rcases hp with ⟨rfl, rfl, h0⟩ | ⟨v3, rfl, rfl⟩
      · exact absurd (List.append_eq_nil_iff.1 (hP.trans h0)).1 hz
      · have hsy := sync_run v v3 du cr op P hin (by omega)
        simp [dsk, dskB, hsw, hal] at hsy
        simp [hs, jstp, dskB, jouA, hsy, hc, a4, a5, hal]
        rw [← hQ]
        exact ⟨_, .inr ⟨v2, _, _, rfl, rfl⟩, by simp [jobs2, jouA, dskB, hal]; first | rfl | exact ⟨rfl, rfl⟩⟩
    · simp [jobs, jouA, dskB, rcV, rcO, dN, pvC, poC] at hv hi
      simp [runFun_eq, jobs, jouA, dskB, rcV, rcO, dN, pvC, poC, hv, hi, a1, a2, a3, hm]
      simp only [ev_bnd_iff]
      refine Ev.mono (hlp ⟨.rsl (0, 2) vr 1 0 rs.length, [((0, 2), .arr 1 vr false (rs.map Bs))], (0, 3), (1, 4)⟩ (.inr (.inl ⟨vr, rfl, rfl⟩)) .nils [] _ (.inl ⟨rfl, rfl, rfl⟩) (by simp [jstp, jouA, dskB])) ?_
      rintro ⟨_, s⟩ ⟨rfl, pv, ps, hp, hs⟩
      dsimp only at hs hp
      rw [hP] at hp
      rcases hp with ⟨rfl, rfl, h0⟩ | ⟨v3, rfl, rfl⟩
      · have hsy := sync_none v du cr op
        subst h0
        simp [dsk, dskB] at hsy
        simp [syncS] at hsw
        subst hsw
        simp [hs, jstp, dskB, jouA, hsy, hc, a4, a5, hrr]
        rw [← hQ]
        exact ⟨[], .inl ⟨rfl, rfl⟩, by simp [jobs2, jouA, dskB]⟩
      · have hsy := sync_run v v3 du cr op P hin (by omega)
        simp [dsk, dskB, hsw, hal] at hsy
        simp [hs, jstp, dskB, jouA, hsy, hc, a4, a5, hal, hrr]
        rw [← hQ]
        exact ⟨[], .inl ⟨rfl, rfl⟩, by simp [jobs2, jouA, dskB, hal]⟩
    · simp [jobs, jouA, dskB, rcV, rcO, dN, pvC, poC] at hv hi
      simp [runFun_eq, jobs, jouA, dskB, rcV, rcO, dN, pvC, poC, hv, hi, a1, a2, a3, hm]
      simp only [ev_bnd_iff]
      refine Ev.mono (hlp ⟨.rsl (0, 2) vr 1 0 rs.length, [((0, 2), .arr 1 vr false (rs.map Bs))], (0, 3), (0, 4)⟩ (.inr (.inr (.inr ⟨vr, hz, rfl⟩))) (.rsl (0, 4) v2 2 0 pe.length) [((0, 4), .arr 2 v2 false (pe.map pnd))] _ (.inr ⟨v2, rfl, rfl⟩) (by simp [jstp, jouA, dskB])) ?_
      rintro ⟨_, s⟩ ⟨rfl, pv, ps, hp, hs⟩
      dsimp only at hs hp
      rw [hP] at hp
      rcases hp with ⟨rfl, rfl, h0⟩ | ⟨v3, rfl, rfl⟩
      · exact absurd (List.append_eq_nil_iff.1 (hP.trans h0)).1 hz
      · have hsy := sync_run v v3 du cr op P hin (by omega)
        simp [dsk, dskB, hsw, hal] at hsy
        simp [hs, jstp, dskB, jouA, hsy, hc, a4, a5, hal, hrr]
        rw [← hQ]
        exact ⟨_, .inr ⟨v2, _, _, rfl, rfl⟩, by simp [jobs2, jouA, dskB, hal]; first | rfl | exact ⟨rfl, rfl⟩⟩
  obtain ⟨q, hq, po, h1, rfl⟩ := key
  exact ⟨po, h1, callT_ev (fn := fn13) rfl rfl ⟨_, hq, rfl⟩⟩
end
end Go.Am

/- Walks of the reference: a record is appended, whatever is pending. -/
set_option linter.unusedVariables false
set_option linter.unusedSimpArgs false
set_option maxRecDepth 10000
namespace Go.Am
open Go.Proofs

def jouAR (recs : AVal) (next ep : Nat) (cr op : Int) : Obj := .box [.ref (0, 1) 0, recs, .dat (.int .i64 next), .dat (.int .i64 ep), .dat (.int .i64 cr), .dat (.int .i64 op)]

def rappP (j : JSp) (v : Nat) (du : List (List UInt8)) (cr op : Int) (next ep : Nat) (b : List UInt8) (pe0 : Pe) (k : Nat) (W : List (List UInt8)) (q : AEx × St) : Prop := q.1 = .exit 0 ∧ ∃ pv ps, PendI j.pid (pe0 ++ wrs W next) pv ps ∧
  hd [0, 1, 5] [] q.2 = some ⟨[(0, .ref (0, 0) 0), (1, .dat (Bs b)), (5, .dat (.int .i64 k))], jstp (jouAR j.rv next ep cr op) j v du cr op pv ps⟩

theorem rappP_loop {rs : List (List UInt8)} {pe0 : Pe} {j : JSp} (hj : JSpOK rs pe0 j) (v : Nat) (du : List (List UInt8)) (cr op : Int) (next ep : Nat) (b : List UInt8) (hdl : du.length ≤ 4096) (hpl : pe0.length < 1000000) (k : Nat) :
    ∀ (rest pre : List (List UInt8)) (pv : AVal) (ps : Store) (s : St), (∀ d ∈ rest, d.length = 64) → next + pre.length + rest.length ≤ du.length → pre.length + rest.length = k → PendI j.pid (pe0 ++ wrs pre next) pv ps →
    hd [0, 1, 5, 6, 7] [0, 1, 6] s = some ⟨[(0, .ref (0, 0) 0), (1, .dat (Bs b)), (5, .dat (.int .i64 k)), (6, .dat (.sl ((pre ++ rest).map Bs))), (7, .dat (.int .i64 pre.length))], jstp (jouAR j.rv next ep cr op) j v du cr op pv ps⟩ →
    Ev (loopLim (exec KJ l29_0) s) (rappP j v du cr op next ep b pe0 k (pre ++ rest)) := by
  intro rest
  induction rest with
  | nil =>
    intro pre pv ps s h64 hle hk hp hs
    apply ev_loop
    have hA : rappP j v du cr op next ep b pe0 k (pre ++ []) = fun q : AEx × St => q.1 = .exit 0 ∧ ∃ pv ps, PendI j.pid (pe0 ++ wrs pre next) pv ps ∧
      hd [0, 1, 5] [] q.2 = some ⟨[(0, .ref (0, 0) 0), (1, .dat (Bs b)), (5, .dat (.int .i64 k))], jstp (jouAR j.rv next ep cr op) j v du cr op pv ps⟩ := by
      rw [List.append_nil]; rfl
    rw [hA]
    have hk2 : pre.length = k := by simpa using hk
    have hk3 : ¬ (pre.length : Int) < k := by omega
    generalize hP : pe0 ++ wrs pre next = P at *
    rcases hj with ⟨rfl, hz, rfl⟩ | ⟨vr, hz, rfl⟩ | ⟨rfl, hz, rfl⟩ | ⟨vr, hz, rfl⟩ <;> rcases hp with ⟨rfl, rfl, h0⟩ | ⟨v2, rfl, rfl⟩
    all_goals
      simp [hs, jstp, dskB, jouAR, hk2]
      first
      | exact .inl ⟨rfl, rfl, h0⟩
      | exact .inr ⟨v2, rfl, rfl⟩
  | cons d rest ih =>
    intro pre pv ps s h64 hle hk hp hs
    apply ev_loop
    rw [List.length_cons] at hle hk
    have hk2 : (pre.length : Int) < k := by omega
    have hk3 : pre.length < k := by omega
    have hx : Ix pre.length := by unfold Ix; omega
    have hd64 := h64 d (by simp)
    have ha1 : (next : Int) + pre.length < 1000000000000000 := by omega
    have ha2 : -1000000000000000 < (next : Int) + pre.length := by omega
    have hwl := wrs_len pre next
    have e1 : pre ++ d :: rest = (pre ++ [d]) ++ rest := by simp
    rw [e1]
    have ih2 := ih (pre ++ [d])
    rw [wrs_snoc, ← List.append_assoc] at ih2
    generalize hQ : rappP j v du cr op next ep b pe0 k (pre ++ [d] ++ rest) = Q at ih2 ⊢
    have hPl : (pe0 ++ wrs pre next).length < 1000000000 := by rw [List.length_append]; omega
    generalize hP : pe0 ++ wrs pre next = P at *
    rcases hp with ⟨rfl, rfl, h0⟩ | ⟨v2, rfl, rfl⟩
    · obtain ⟨v3, hw⟩ := rwrite_run (v := v) (du := du) (cr := cr) (op := op) (pe := []) (.inl ⟨rfl, rfl, rfl⟩) (by simp) (i := next + pre.length) (by omega) hd64
      rw [h0] at ih2
      simp [dsk, dskB] at hw
      rcases hj with ⟨rfl, hz, rfl⟩ | ⟨vr, hz, rfl⟩ | ⟨rfl, hz, rfl⟩ | ⟨vr, hz, rfl⟩
      · simp [hs, jstp, dskB, jouAR, hx, ha1, ha2, hw, hk2, hk3]
        refine Ev.mono (ih2 _ _ _ (fun x hx => h64 x (by simp [hx])) (by simp; omega) (by simp; omega) (.inr ⟨v3, rfl, rfl⟩) (by simp [jstp, dskB, jouAR])) (fun _ h => h)
      · simp [hs, jstp, dskB, jouAR, hx, ha1, ha2, hw, hk2, hk3]
        refine Ev.mono (ih2 _ _ _ (fun x hx => h64 x (by simp [hx])) (by simp; omega) (by simp; omega) (.inr ⟨v3, rfl, rfl⟩) (by simp [jstp, dskB, jouAR])) (fun _ h => h)
      · exact absurd (List.append_eq_nil_iff.1 (hP.trans h0)).1 hz
      · exact absurd (List.append_eq_nil_iff.1 (hP.trans h0)).1 hz
    · obtain ⟨v3, hw⟩ := rwrite_run (v := v) (du := du) (cr := cr) (op := op) (pe := P) (.inr ⟨v2, rfl, rfl⟩) (by omega) (i := next + pre.length) (by omega) hd64
      simp [dsk, dskB] at hw
      rcases hj with ⟨rfl, hz, rfl⟩ | ⟨vr, hz, rfl⟩ | ⟨rfl, hz, rfl⟩ | ⟨vr, hz, rfl⟩
      all_goals
        simp [hs, jstp, dskB, jouAR, hx, ha1, ha2, hw, hk2, hk3]
        refine Ev.mono (ih2 _ _ _ (fun x hx => h64 x (by simp [hx])) (by simp; omega) (by simp; omega) (.inr ⟨v3, rfl, rfl⟩) (by simp [jstp, dskB, jouAR])) (fun _ h => h)
end Go.Am

/- Walks of the reference: a record is appended, whatever is pending: the whole function. -/
set_option linter.unusedVariables false
set_option linter.unusedSimpArgs false
set_option maxRecDepth 10000
namespace Go.Am
open Go.Proofs

section
variable {v : Nat} {du rs : List (List UInt8)} {cr op jcr jop : Int} {r sh : Option Nat} {pe : Pe} {next ep : Nat} {b : List UInt8}

theorem rappP_crash (hr : rcK rs r) (hs : shOK sh pe) (h : ¬ cr = jcr) :
    KJ 29 [.ref (0, 0) 0, .dat (Bs b)] (jobs (jouAR (rcV rs r) next ep jcr jop) v du cr op r rs sh pe) = some (.dat (.int .i64 25), jobs (jouAR (rcV rs r) next ep jcr jop) v du cr op r rs sh pe) := by
  refine callT_ev (fn := fn29) rfl rfl ?_
  rcases hr with ⟨rfl, rfl⟩ | ⟨vr, rfl⟩ <;> rcases hs with ⟨rfl, rfl⟩ | ⟨v2, rfl, hz⟩
  all_goals
    simp [runFun_eq, jobs, jouAR, dskB, rcV, rcO, dN, pvC, poC, h]

theorem rappP_state (hr : rcK rs r) (hs : shOK sh pe) (h : ¬ op = jop) :
    KJ 29 [.ref (0, 0) 0, .dat (Bs b)] (jobs (jouAR (rcV rs r) next ep cr jop) v du cr op r rs sh pe) = some (.dat (.int .i64 30), jobs (jouAR (rcV rs r) next ep cr jop) v du cr op r rs sh pe) := by
  refine callT_ev (fn := fn29) rfl rfl ?_
  rcases hr with ⟨rfl, rfl⟩ | ⟨vr, rfl⟩ <;> rcases hs with ⟨rfl, rfl⟩ | ⟨v2, rfl, hz⟩
  all_goals
    simp [runFun_eq, jobs, jouAR, dskB, rcV, rcO, dN, pvC, poC, h]

theorem rappP_full (hr : rcK rs r) (hs : shOK sh pe) (hdl : du.length ≤ 4096) (hn : next ≤ du.length) (hep : ep < 4294967296) (hb : b.length < 100000) (hrs : rs.length < 100000)
    (hf : ¬ next + (imageB b rs.length ep).length ≤ du.length) :
    KJ 29 [.ref (0, 0) 0, .dat (Bs b)] (jobs (jouAR (rcV rs r) next ep cr op) v du cr op r rs sh pe) = some (.dat (.int .i64 24), jobs (jouAR (rcV rs r) next ep cr op) v du cr op r rs sh pe) := by
  refine callT_ev (fn := fn29) rfl rfl ?_
  have hi := rimage_run b rs.length ep (by omega) (by omega) hep
  have hsl := rseal_run b (by omega)
  have hpt := rparts_run (sealB b).length (by have := sealB_len b; omega)
  have hil := imageB_len b rs.length ep
  rw [show ((sealB b).length + 51) / 52 = cntB (sealB b) from rfl, ← hil] at hpt
  have hm : (rs.length : Int) % 4294967296 = rs.length := by omega
  clear hil
  generalize imageB b rs.length ep = W at *
  have a1 : (du.length : Int) - next < 1000000000000000 := by omega
  have a2 : -1000000000000000 < (du.length : Int) - next := by omega
  have a3 : (du.length : Int) - next < W.length := by omega
  rcases hr with ⟨rfl, rfl⟩ | ⟨vr, rfl⟩ <;> rcases hs with ⟨rfl, rfl⟩ | ⟨v2, rfl, hz⟩
  all_goals
    simp [runFun_eq, jobs, jouAR, dskB, rcV, rcO, dN, pvC, poC, hsl, hpt, hi, a1, a2, a3, hm]

theorem rappP_ok (hr : rcK rs r) (hs : shOK sh pe) (hpe : ∀ w ∈ pe, 0 ≤ w.1 ∧ w.1 < du.length) (hpl : pe.length < 1000000) (hdl : du.length ≤ 4096) (hn : next ≤ du.length) (hep : ep < 4294967296) (hb : b.length < 100000) (hrs : rs.length < 100000)
    (hf : next + (imageB b rs.length ep).length ≤ du.length) :
    ∃ po, Stale sh po ∧ KJ 29 [.ref (0, 0) 0, .dat (Bs b)] (jobs (jouAR (rcV rs r) next ep cr op) v du cr op r rs sh pe) =
      some (.dat (.int .i64 0), jobs2 (fun x => jouAR x (next + (imageB b rs.length ep).length) ep cr op) v (setAll (syncS pe du) next (imageB b rs.length ep)) cr op r (rs ++ [b]) po) := by
  have key : Ev (runFun KJ fn29 [.ref (0, 0) 0, .dat (Bs b)] (jobs (jouAR (rcV rs r) next ep cr op) v du cr op r rs sh pe)) fun q => ∃ po, Stale sh po ∧ q =
      (.dat (.int .i64 0), jobs2 (fun x => jouAR x (next + (imageB b rs.length ep).length) ep cr op) v (setAll (syncS pe du) next (imageB b rs.length ep)) cr op r (rs ++ [b]) po) := by
    have hi := rimage_run b rs.length ep (by omega) (by omega) hep
    have hsl := rseal_run b (by omega)
    have hpt := rparts_run (sealB b).length (by have := sealB_len b; omega)
    have hil := imageB_len b rs.length ep
    rw [show ((sealB b).length + 51) / 52 = cntB (sealB b) from rfl, ← hil] at hpt
    have h64 := imageB_64 b rs.length ep
    have hc : b.length * 2 ≤ 1099511627776 := by omega
    have hlp := fun j (hj : JSpOK rs pe j) pv ps s hpv h => rappP_loop hj v du cr op next ep b hdl hpl (imageB b rs.length ep).length (imageB b rs.length ep) [] pv ps s h64 (by simp; omega) (by simp) hpv h
    have hin := wrs_bnd hpe hf
    have hwl := wrs_len (imageB b rs.length ep) next
    have hsw := sync_wrs (imageB b rs.length ep) next (syncS pe du)
    rw [← syncS_app] at hsw
    have hm : (rs.length : Int) % 4294967296 = rs.length := by omega
    have hrr : (rs.length + 1) * 25 ≤ 1099511627776 := by omega
    have hal : (setAll (syncS pe du) next (imageB b rs.length ep)).length = du.length := by rw [setAll_len, syncS_len]
    simp only [List.nil_append, wrs, List.append_nil] at hlp
    clear hil
    generalize imageB b rs.length ep = W at *
    generalize hD : setAll (syncS pe du) next W = D at *
    obtain ⟨a1, a2, a3, a4, a5⟩ := app_arith hn hdl hf
    have hPl : (pe ++ wrs W next).length < 1000000000 := by rw [List.length_append]; omega
    generalize hP : pe ++ wrs W next = P at *
    generalize hQ : (fun q => ∃ po, Stale sh po ∧ q = (AVal.dat (.int .i64 0), jobs2 (fun x => jouAR x (next + W.length) ep cr op) v D cr op r (rs ++ [b]) po)) = Q
    rcases hr with ⟨rfl, rfl⟩ | ⟨vr, rfl⟩ <;> rcases hs with ⟨rfl, rfl⟩ | ⟨v2, rfl, hz⟩
    · try simp at hi
      simp [runFun_eq, jobs, jouAR, dskB, rcV, rcO, dN, pvC, poC, hsl, hpt, hi, a1, a2, a3, hm]
      simp only [ev_bnd_iff]
      refine Ev.mono (hlp ⟨.nils, [], (0, 2), (1, 3)⟩ (.inl ⟨rfl, rfl, rfl⟩) .nils [] _ (.inl ⟨rfl, rfl, rfl⟩) (by simp [jstp, jouAR, dskB])) ?_
      rintro ⟨_, s⟩ ⟨rfl, pv, ps, hp, hs⟩
      dsimp only at hs hp
      rw [hP] at hp
      rcases hp with ⟨rfl, rfl, h0⟩ | ⟨v3, rfl, rfl⟩
      · have hsy := rsync_none v du cr op
        subst h0
        simp [dsk, dskB] at hsy
        simp [syncS] at hsw
        subst hsw
        by_cases hbn : b = []
        all_goals
          simp [hs, jstp, dskB, jouAR, hsy, hc, a4, a5, hbn]
          rw [← hQ]
          exact ⟨[], .inl ⟨rfl, rfl⟩, by simp [jobs2, jouAR, dskB, hbn]⟩
      · have hsy := rsync_run v v3 du cr op P hin (by omega)
        simp [dsk, dskB, hsw, hal] at hsy
        by_cases hbn : b = []
        all_goals
          simp [hs, jstp, dskB, jouAR, hsy, hc, a4, a5, hal, hbn]
          rw [← hQ]
          exact ⟨[], .inl ⟨rfl, rfl⟩, by simp [jobs2, jouAR, dskB, hbn, hal]⟩
    · try simp at hi
      simp [runFun_eq, jobs, jouAR, dskB, rcV, rcO, dN, pvC, poC, hsl, hpt, hi, a1, a2, a3, hm]
      simp only [ev_bnd_iff]
      refine Ev.mono (hlp ⟨.nils, [], (0, 2), (0, 3)⟩ (.inr (.inr (.inl ⟨rfl, hz, rfl⟩))) (.rsl (0, 3) v2 2 0 pe.length) [((0, 3), .arr 2 v2 false (pe.map pnd))] _ (.inr ⟨v2, rfl, rfl⟩) (by simp [jstp, jouAR, dskB])) ?_
      rintro ⟨_, s⟩ ⟨rfl, pv, ps, hp, hs⟩
      dsimp only at hs hp
      rw [hP] at hp
      rcases hp with ⟨rfl, rfl, h0⟩ | ⟨v3, rfl, rfl⟩
      · exact absurd (List.append_eq_nil_iff.1 (hP.trans h0)).1 hz
      · have hsy := rsync_run v v3 du cr op P hin (by omega)
        simp [dsk, dskB, hsw, hal] at hsy
        by_cases hbn : b = []
        all_goals
          simp [hs, jstp, dskB, jouAR, hsy, hc, a4, a5, hal, hbn]
          rw [← hQ]
          exact ⟨_, .inr ⟨v2, _, _, rfl, rfl⟩, by simp [jobs2, jouAR, dskB, hbn, hal]; first | rfl | exact ⟨rfl, rfl⟩⟩
    · try simp at hi
      simp [runFun_eq, jobs, jouAR, dskB, rcV, rcO, dN, pvC, poC, hsl, hpt, hi, a1, a2, a3, hm]
      simp only [ev_bnd_iff]
      refine Ev.mono (hlp ⟨.rsl (0, 2) vr 1 0 rs.length, [((0, 2), .arr 1 vr false (rs.map Bs))], (0, 3), (1, 4)⟩ (.inr (.inl ⟨vr, rfl, rfl⟩)) .nils [] _ (.inl ⟨rfl, rfl, rfl⟩) (by simp [jstp, jouAR, dskB])) ?_
      rintro ⟨_, s⟩ ⟨rfl, pv, ps, hp, hs⟩
      dsimp only at hs hp
      rw [hP] at hp
      rcases hp with ⟨rfl, rfl, h0⟩ | ⟨v3, rfl, rfl⟩
      · have hsy := rsync_none v du cr op
        subst h0
        simp [dsk, dskB] at hsy
        simp [syncS] at hsw
        subst hsw
        by_cases hbn : b = []
        all_goals
          simp [hs, jstp, dskB, jouAR, hsy, hc, a4, a5, hrr, hbn]
          rw [← hQ]
          exact ⟨[], .inl ⟨rfl, rfl⟩, by simp [jobs2, jouAR, dskB, hbn]⟩
      · have hsy := rsync_run v v3 du cr op P hin (by omega)
        simp [dsk, dskB, hsw, hal] at hsy
        by_cases hbn : b = []
        all_goals
          simp [hs, jstp, dskB, jouAR, hsy, hc, a4, a5, hal, hrr, hbn]
          rw [← hQ]
          exact ⟨[], .inl ⟨rfl, rfl⟩, by simp [jobs2, jouAR, dskB, hbn, hal]⟩
    · try simp at hi
      simp [runFun_eq, jobs, jouAR, dskB, rcV, rcO, dN, pvC, poC, hsl, hpt, hi, a1, a2, a3, hm]
      simp only [ev_bnd_iff]
      refine Ev.mono (hlp ⟨.rsl (0, 2) vr 1 0 rs.length, [((0, 2), .arr 1 vr false (rs.map Bs))], (0, 3), (0, 4)⟩ (.inr (.inr (.inr ⟨vr, hz, rfl⟩))) (.rsl (0, 4) v2 2 0 pe.length) [((0, 4), .arr 2 v2 false (pe.map pnd))] _ (.inr ⟨v2, rfl, rfl⟩) (by simp [jstp, jouAR, dskB])) ?_
      rintro ⟨_, s⟩ ⟨rfl, pv, ps, hp, hs⟩
      dsimp only at hs hp
      rw [hP] at hp
      rcases hp with ⟨rfl, rfl, h0⟩ | ⟨v3, rfl, rfl⟩
      · exact absurd (List.append_eq_nil_iff.1 (hP.trans h0)).1 hz
      · have hsy := rsync_run v v3 du cr op P hin (by omega)
        simp [dsk, dskB, hsw, hal] at hsy
        by_cases hbn : b = []
        all_goals
          simp [hs, jstp, dskB, jouAR, hsy, hc, a4, a5, hal, hrr, hbn]
          rw [← hQ]
          exact ⟨_, .inr ⟨v2, _, _, rfl, rfl⟩, by simp [jobs2, jouAR, dskB, hbn, hal]; first | rfl | exact ⟨rfl, rfl⟩⟩
  obtain ⟨q, hq, po, h1, rfl⟩ := key
  exact ⟨po, h1, callT_ev (fn := fn29) rfl rfl ⟨_, hq, rfl⟩⟩
end
end Go.Am

/- Walks: the last record and the number of records. -/
set_option linter.unusedVariables false
set_option linter.unusedSimpArgs false
set_option maxRecDepth 10000
namespace Go.Am
open Go.Proofs

def lastB (rs : List (List UInt8)) : List UInt8 := rs.getD (rs.length - 1) []

section
variable {v : Nat} {du rs : List (List UInt8)} {cr op jcr jop : Int} {r sh : Option Nat} {pe : Pe} {next ep : Nat} {b : List UInt8}

theorem last_p (hr : rcK rs r) (hs : shOK sh pe) (hl : rs.length < 1000000) (hb : ∀ d ∈ rs, d.length < 10000000) :
    KJ 30 [.ref (0, 0) 0] (jobs (jouA (rcV rs r) next ep jcr jop) v du cr op r rs sh pe) = some (.tup [.dat (.sl ((lastB rs).map B)), .dat (.bool (!rs.isEmpty))], jobs (jouA (rcV rs r) next ep jcr jop) v du cr op r rs sh pe) := by
  refine callT_ev (fn := fn30) rfl rfl ?_
  have hv := jvalid_p (v := v) (du := du) (cr := cr) (op := op) (jcr := jcr) (jop := jop) (next := next) (ep := ep) hr hs
  by_cases h0 : rs = []
  · subst h0
    rcases hr with ⟨rfl, hz0⟩ | ⟨vr, rfl⟩ <;> rcases hs with ⟨rfl, rfl⟩ | ⟨v2, rfl, hz⟩
    all_goals
      simp [jobs, jouA, dskB, rcV, rcO, dN, pvC, poC] at hv
      simp [runFun_eq, jobs, jouA, dskB, rcV, rcO, dN, pvC, poC, hv, lastB]
  · have hp := pos_ne h0
    obtain ⟨x, hx, hx'⟩ := get_at' rs (i := rs.length - 1) (by omega)
    have hc := clone_run x (by have := hb x (List.mem_of_getElem? hx); omega)
    have hlb : lastB rs = x := by rw [lastB, List.getD_eq_getElem?_getD, hx]; rfl
    have e1 : (rs.length : Int) - 1 < 1000000000000000 := by omega
    have e2 : -1000000000000000 < (rs.length : Int) - 1 := by omega
    have e3 : (0 : Int) ≤ (rs.length : Int) - 1 := by omega
    have e4 : ((rs.length : Int) - 1).toNat = rs.length - 1 := by omega
    have e5 : (1 : Int) ≤ rs.length := by omega
    have e6 : rs.length - 1 < rs.length := by omega
    have e7 : ¬ (rs.length : Int) = 0 := by omega
    have e8 : (rs.length : Int) - 1 < rs.length := by omega
    have e9 : rs.isEmpty = false := by cases rs with | nil => exact absurd rfl h0 | cons _ _ => rfl
    rcases hr with ⟨rfl, hz0⟩ | ⟨vr, rfl⟩ <;> rcases hs with ⟨rfl, rfl⟩ | ⟨v2, rfl, hz⟩
    · exact absurd hz0 h0
    · exact absurd hz0 h0
    all_goals
      simp [jobs, jouA, dskB, rcV, rcO, dN, pvC, poC] at hv
      simp [runFun_eq, jobs, jouA, dskB, rcV, rcO, dN, pvC, poC, hv, hlb, hx, hx', hc, e1, e2, e3, e4, e5, e6, e7, e8, e9, h0, hp]

theorem len_p (hr : rcK rs r) (hs : shOK sh pe) :
    KJ 32 [.ref (0, 0) 0] (jobs (jouA (rcV rs r) next ep jcr jop) v du cr op r rs sh pe) = some (.dat (.int .i64 rs.length), jobs (jouA (rcV rs r) next ep jcr jop) v du cr op r rs sh pe) := by
  refine callT_ev (fn := fn32) rfl rfl ?_
  have hv := jvalid_p (v := v) (du := du) (cr := cr) (op := op) (jcr := jcr) (jop := jop) (next := next) (ep := ep) hr hs
  rcases hr with ⟨rfl, rfl⟩ | ⟨vr, rfl⟩ <;> rcases hs with ⟨rfl, rfl⟩ | ⟨v2, rfl, hz⟩
  all_goals
    simp [jobs, jouA, dskB, rcV, rcO, dN, pvC, poC] at hv
    simp [runFun_eq, jobs, jouA, dskB, rcV, rcO, dN, pvC, poC, hv]

theorem rlast_p (hr : rcK rs r) (hs : shOK sh pe) (hl : rs.length < 1000000) (hb : ∀ d ∈ rs, d.length < 10000000) :
    KJ 31 [.ref (0, 0) 0] (jobs (jouAR (rcV rs r) next ep jcr jop) v du cr op r rs sh pe) = some (.tup [.dat (.sl ((lastB rs).map B)), .dat (.bool (!rs.isEmpty))], jobs (jouAR (rcV rs r) next ep jcr jop) v du cr op r rs sh pe) := by
  refine callT_ev (fn := fn31) rfl rfl ?_
  by_cases h0 : rs = []
  · subst h0
    rcases hr with ⟨rfl, hz0⟩ | ⟨vr, rfl⟩ <;> rcases hs with ⟨rfl, rfl⟩ | ⟨v2, rfl, hz⟩
    all_goals
      simp [runFun_eq, jobs, jouAR, dskB, rcV, rcO, dN, pvC, poC, lastB]
  · have hp := pos_ne h0
    obtain ⟨x, hx, hx'⟩ := get_at' rs (i := rs.length - 1) (by omega)
    have hxl : x.length * 2 ≤ 1099511627776 := by have := hb x (List.mem_of_getElem? hx); omega
    have hlb : lastB rs = x := by rw [lastB, List.getD_eq_getElem?_getD, hx]; rfl
    have e1 : (rs.length : Int) - 1 < 1000000000000000 := by omega
    have e2 : -1000000000000000 < (rs.length : Int) - 1 := by omega
    have e3 : (0 : Int) ≤ (rs.length : Int) - 1 := by omega
    have e4 : ((rs.length : Int) - 1).toNat = rs.length - 1 := by omega
    have e5 : (1 : Int) ≤ rs.length := by omega
    have e6 : rs.length - 1 < rs.length := by omega
    have e7 : ¬ (rs.length : Int) = 0 := by omega
    have e8 : (rs.length : Int) - 1 < rs.length := by omega
    have e9 : rs.isEmpty = false := by cases rs with | nil => exact absurd rfl h0 | cons _ _ => rfl
    rcases hr with ⟨rfl, hz0⟩ | ⟨vr, rfl⟩ <;> rcases hs with ⟨rfl, rfl⟩ | ⟨v2, rfl, hz⟩
    · exact absurd hz0 h0
    · exact absurd hz0 h0
    all_goals
      by_cases hxn : x = []
      · simp [runFun_eq, jobs, jouAR, dskB, rcV, rcO, dN, pvC, poC, hlb, hx, hx', hxl, e1, e2, e3, e4, e5, e6, e7, e8, e9, h0, hp, hxn]
      · simp [runFun_eq, jobs, jouAR, dskB, rcV, rcO, dN, pvC, poC, hlb, hx, hx', hxl, e1, e2, e3, e4, e5, e6, e7, e8, e9, h0, hp, hxn]

theorem rlen_p (hr : rcK rs r) (hs : shOK sh pe) :
    KJ 33 [.ref (0, 0) 0] (jobs (jouAR (rcV rs r) next ep jcr jop) v du cr op r rs sh pe) = some (.dat (.int .i64 rs.length), jobs (jouAR (rcV rs r) next ep jcr jop) v du cr op r rs sh pe) := by
  refine callT_ev (fn := fn33) rfl rfl ?_
  rcases hr with ⟨rfl, rfl⟩ | ⟨vr, rfl⟩ <;> rcases hs with ⟨rfl, rfl⟩ | ⟨v2, rfl, hz⟩
  all_goals
    simp [runFun_eq, jobs, jouAR, dskB, rcV, rcO, dN, pvC, poC]
end

theorem jvalid_n : KJ 39 [.nilp] [] = some (.dat (.bool false), []) := callT_ev (fn := fn39) rfl rfl (by simp [runFun_eq])
theorem last_n : KJ 30 [.nilp] [] = some (.tup [.dat (.sl []), .dat (.bool false)], []) := callT_ev (fn := fn30) rfl rfl (by simp [runFun_eq, jvalid_n])
theorem rlast_n : KJ 31 [.nilp] [] = some (.tup [.dat (.sl []), .dat (.bool false)], []) := callT_ev (fn := fn31) rfl rfl (by simp [runFun_eq])
theorem len_n : KJ 32 [.nilp] [] = some (.dat (.int .i64 0), []) := callT_ev (fn := fn32) rfl rfl (by simp [runFun_eq, jvalid_n])
theorem rlen_n : KJ 33 [.nilp] [] = some (.dat (.int .i64 0), []) := callT_ev (fn := fn33) rfl rfl (by simp [runFun_eq])
theorem app_n (b : List UInt8) : KJ 13 [.nilp, .dat (Bs b)] [] = some (.dat (.int .i64 23), []) := callT_ev (fn := fn13) rfl rfl (by simp [runFun_eq, jvalid_n])
theorem rapp_n (b : List UInt8) : KJ 29 [.nilp, .dat (Bs b)] [] = some (.dat (.int .i64 23), []) := callT_ev (fn := fn29) rfl rfl (by simp [runFun_eq])
end Go.Am
