/- The abstract machine: lemmas by which simp evaluates code, one step after the other. -/
import Derived.Test.YtpmlioigoiipaaaAmLim
set_option linter.unusedVariables false
namespace Go.Am

def bnd {α β : Type} (x : Option α) (f : α → Option β) : Option β := match x with
  | some a => f a
  | none => none

@[congr] theorem bnd_congr {α β : Type} {x x' : Option α} {f : α → Option β} (h : x = x') : bnd x f = bnd x' f := by rw [h]
theorem bnd_some {α β : Type} (a : α) (f : α → Option β) : bnd (some a) f = f a := rfl
theorem bnd_none {α β : Type} (f : α → Option β) : bnd none f = none := rfl

section
variable (K : Orc)

@[congr] theorem exec_congr {K : Orc} {c : AC} {s s' : St} (h : s = s') : exec K c s = exec K c s' := by rw [h]
@[congr] theorem runOps_congr {K : Orc} {i i' : Nat} {l : List AO} {s s' : St} {lg lg' : Log} (hi : i = i') (h : s = s') (hl : lg = lg') : runOps K i l s lg = runOps K i' l s' lg' := by rw [hi, h, hl]

noncomputable def seqK (b : AC) : AEx × St → Option (AEx × St)
  | (.normal, s) => exec K b s
  | (.exit id, s) => some (.exit id, s)
  | (.ret, s) => some (.ret, s)

def blkK (id : Nat) : AEx × St → Option (AEx × St)
  | (.normal, s) => some (.normal, s)
  | (.exit id', s) => if id' = id then some (.normal, s) else some (.exit id', s)
  | (.ret, s) => some (.ret, s)

noncomputable def condK (a b : AC) (s : St) : AVal → Option (AEx × St)
  | .dat (.bool t) => match t with
    | true => exec K a s
    | false => exec K b s
  | _ => none

@[congr] theorem condK_congr {K : Orc} {a b : AC} {s s' : St} {v v' : AVal} (hs : s = s') (h : v = v') : condK K a b s v = condK K a b s' v' := by rw [hs, h]

theorem seqK_n (b : AC) (s : St) : seqK K b (.normal, s) = exec K b s := rfl
theorem seqK_e (b : AC) (s : St) (id : Nat) : seqK K b (.exit id, s) = some (.exit id, s) := rfl
theorem seqK_r (b : AC) (s : St) : seqK K b (.ret, s) = some (.ret, s) := rfl
theorem blkK_n (id : Nat) (s : St) : blkK id (.normal, s) = some (.normal, s) := rfl
theorem blkK_e (id id' : Nat) (s : St) : blkK id (.exit id', s) = if id' = id then some (.normal, s) else some (.exit id', s) := rfl
theorem blkK_r (id : Nat) (s : St) : blkK id (.ret, s) = some (.ret, s) := rfl
theorem condK_t (a b : AC) (s : St) : condK K a b s (.dat (.bool true)) = exec K a s := rfl
theorem condK_f (a b : AC) (s : St) : condK K a b s (.dat (.bool false)) = exec K b s := rfl

theorem exec_skip (s : St) : exec K .skip s = some (.normal, s) := rfl
theorem exec_exit (id : Nat) (s : St) : exec K (.exit id) s = some (.exit id, s) := rfl
theorem exec_ret (s : St) : exec K .ret s = some (.ret, s) := rfl
theorem exec_reg (r : AReg) (s : St) : exec K (.reg r) s = bnd (runReg K r s) fun s => some (.normal, s) := by
  simp only [exec, bnd]; split <;> simp_all
theorem exec_seq (a b : AC) (s : St) : exec K (.seq a b) s = bnd (exec K a s) (seqK K b) := by
  simp only [exec, bnd]
  cases exec K a s with
  | none => rfl
  | some r => obtain ⟨x, s'⟩ := r; cases x <;> rfl
theorem exec_block (id : Nat) (c : AC) (s : St) : exec K (.block id c) s = bnd (exec K c s) (blkK id) := by
  simp only [exec, bnd]
  cases exec K c s with
  | none => rfl
  | some r => obtain ⟨x, s'⟩ := r; cases x <;> rfl
theorem exec_cond (x : AX) (a b : AC) (s : St) : exec K (.cond x a b) s = condK K a b s (evX (gE s.env) x) := by
  simp only [exec]
  generalize evX (gE s.env) x = v
  cases v with
  | dat d =>
    cases d with
    | bool t => cases t <;> rfl
    | _ => rfl
  | _ => rfl
theorem exec_loop (c : AC) (s : St) : exec K (.loop c) s = loopLim (exec K c) s := rfl

def opsK (i : Nat) (o : AO) (r : List AO) (s : St) (lg : Log) (out : Out) : Option (St × Log) :=
  runOps K (i + 1) r ⟨putE s.env o.dst out.1, pOs s.objs out.2⟩ (lg ++ logOf o i (gE s.env) (gO s.objs) out)

theorem runOps_nil (i : Nat) (s : St) (lg : Log) : runOps K i [] s lg = some (s, lg) := rfl
theorem runOps_cons (i : Nat) (o : AO) (r : List AO) (s : St) (lg : Log) : runOps K i (o :: r) s lg = bnd (aoE K o (gE s.env) (gO s.objs)) (opsK K i o r s lg) := by
  simp only [runOps, bnd]; split <;> simp_all [opsK]
theorem opsK_eq (i : Nat) (d : Option Nat) (k : AK) (g : Option (Nat × Bool)) (lgd : Bool) (r : List AO) (env : Env) (objs : Store) (lg : Log) (v : AVal) (upd : List (Id × Obj)) :
    opsK K i ⟨d, k, g, lgd⟩ r ⟨env, objs⟩ lg (v, upd) = runOps K (i + 1) r ⟨putE env d v, pOs objs upd⟩ (lg ++ logOf ⟨d, k, g, lgd⟩ i (gE env) (gO objs) (v, upd)) := rfl
theorem logOf_f (d : Option Nat) (k : AK) (g : Option (Nat × Bool)) (i : Nat) (e : Nat → AVal) (ρ : Look) (out : Out) : logOf ⟨d, k, g, false⟩ i e ρ out = [] := rfl
theorem logOf_t (d : Option Nat) (k : AK) (g : Option (Nat × Bool)) (i : Nat) (e : Nat → AVal) (ρ : Look) (out : Out) : logOf ⟨d, k, g, true⟩ i e ρ out = [(i, touch k e ρ, out.2.map (·.1))] := rfl

def pairsK (pairs : List (Nat × Nat)) (p : St × Log) : Option St := if pairs.all (pairOk p.2) then some p.1 else none
theorem pairsK_nil (s : St) (lg : Log) : pairsK [] (s, lg) = some s := rfl
def regK (r : AReg) (s : St) : Option St := bnd (runOps K 0 r.ops s []) (pairsK r.pairs)
theorem regK_eq (live drop : List Nat) (ops : List AO) (pairs : List (Nat × Nat)) (s : St) : regK K ⟨live, drop, ops, pairs⟩ s = bnd (runOps K 0 ops s []) (pairsK pairs) := rfl
theorem runReg_eq (live drop : List Nat) (ops : List AO) (pairs : List (Nat × Nat)) (env : Env) (objs : Store) : runReg K ⟨live, drop, ops, pairs⟩ ⟨env, objs⟩ = bnd (dropE drop ⟨restrict live env, objs⟩) (regK K ⟨live, drop, ops, pairs⟩) := by
  simp only [runReg, bnd, regK, pairsK]
  cases dropE drop ⟨restrict live env, objs⟩ with
  | none => rfl
  | some s =>
    simp only
    cases runOps K 0 ops s [] with
    | none => rfl
    | some p => rfl
/-- a region's start: what lives on, named anew -/
def hd (live drop : List Nat) (s : St) : Option St := dropE drop ⟨restrict live s.env, s.objs⟩
theorem hd_eq (live drop : List Nat) (env : Env) (objs : Store) : hd live drop ⟨env, objs⟩ = dropE drop ⟨restrict live env, objs⟩ := rfl
theorem runReg_hd (live drop : List Nat) (ops : List AO) (pairs : List (Nat × Nat)) (s : St) : runReg K ⟨live, drop, ops, pairs⟩ s = bnd (hd live drop s) (regK K ⟨live, drop, ops, pairs⟩) := runReg_eq K live drop ops pairs s.env s.objs
theorem dropE_nil (s : St) : dropE [] s = some s := rfl
theorem restrict_nil (env : Env) : restrict [] env = [] := rfl
theorem restrict_cons (t : Nat) (r : List Nat) (env : Env) : restrict (t :: r) env = (t, gE env t) :: restrict r env := rfl

theorem aoE_plain (d : Option Nat) (k : AK) (l : Bool) (g : Nat → AVal) (ρ : Look) : aoE K ⟨d, k, none, l⟩ g ρ = opE K (d.getD 0) k g ρ := rfl
def grdK (want : Bool) (x : Option Out) : AVal → Option Out
  | .dat (.bool b) => if b = want then x else some (.tup [], [])
  | .tup [] => some (.tup [], [])
  | _ => none
@[congr] theorem grdK_congr {want : Bool} {x : Option Out} {v v' : AVal} (h : v = v') : grdK want x v = grdK want x v' := by rw [h]
theorem aoE_guard (d : Option Nat) (k : AK) (t : Nat) (want l : Bool) (g : Nat → AVal) (ρ : Look) : aoE K ⟨d, k, some (t, want), l⟩ g ρ = grdK want (opE K (d.getD 0) k g ρ) (g t) := by
  simp only [aoE]
  generalize g t = v
  cases v with
  | dat d => cases d <;> rfl
  | tup l => cases l <;> rfl
  | _ => rfl
theorem grdK_b (want b : Bool) (x : Option Out) : grdK want x (.dat (.bool b)) = if b = want then x else some (.tup [], []) := rfl
theorem grdK_u (want : Bool) (x : Option Out) : grdK want x (.tup []) = some (.tup [], []) := rfl

theorem putE_some (env : Env) (d : Nat) (v : AVal) : putE env (some d) v = (d, v) :: env := rfl
theorem putE_none (env : Env) (v : AVal) : putE env none v = env := rfl

theorem gE_hit (env : Env) (t : Nat) (v : AVal) : gE ((t, v) :: env) t = v := by simp [gE]
theorem gE_miss (env : Env) (t t' : Nat) (v : AVal) : gE ((t', v) :: env) t = if t' = t then v else gE env t := rfl


/-! ### a function's result -/

def retK3 (vs : List AVal) (order : List Id) (os : List Obj) : Option (AVal × List Obj) :=
  some (match AVal.renL (toPos order) vs with | [v] => v | _ => .tup (AVal.renL (toPos order) vs), os.map (Obj.ren (toPos order)))
def retK2 (objs : Store) (vs : List AVal) (order : List Id) : Option (AVal × List Obj) := bnd (gather (gO objs) order) (retK3 vs order)
def retK1 (m : Nat) (objs : Store) (p : List AVal × List Id) : Option (AVal × List Obj) :=
  bnd (collect (gO (pOs objs (frz (gO objs) p.2))) 64 ((List.range m).map (fun j => ((0, j) : Id)) ++ AVal.idsL p.1) []) (retK2 (pOs objs (frz (gO objs) p.2)) p.1)
def retK (keep : Bool) (m : Nat) (objs : Store) (vs : List AVal) : Option (AVal × List Obj) := bnd (ressE (gO objs) keep vs) (retK1 m objs)

theorem retE_eq (np : Nat) (res : List Nat) (keep : Bool) (code : AC) (sp : Option Nat) (m : Nat) (env : Env) (objs : Store) : retE ⟨np, res, keep, code, sp⟩ m ⟨env, objs⟩ = retK keep m objs (res.map (gE env)) := by
  simp only [retE, retK, bnd]
  cases ressE (gO objs) keep (res.map (gE env)) with
  | none => rfl
  | some p =>
    obtain ⟨vs, fs⟩ := p
    simp only [retK1, bnd]
    cases collect (gO (pOs objs (frz (gO objs) fs))) 64 ((List.range m).map (fun j => ((0, j) : Id)) ++ AVal.idsL vs) [] with
    | none => rfl
    | some order =>
      simp only [retK2, bnd]
      cases gather (gO (pOs objs (frz (gO objs) fs))) order <;> rfl

def endK (res : List Nat) (keep : Bool) (m : Nat) : AEx × St → Option (AVal × List Obj)
  | (.normal, s) => retK keep m s.objs (res.map (gE s.env))
  | (.ret, s) => retK keep m s.objs (res.map (gE s.env))
  | (.exit _, _) => none
theorem endK_n (res : List Nat) (keep : Bool) (m : Nat) (env : Env) (objs : Store) : endK res keep m (.normal, ⟨env, objs⟩) = retK keep m objs (res.map (gE env)) := rfl
theorem endK_r (res : List Nat) (keep : Bool) (m : Nat) (env : Env) (objs : Store) : endK res keep m (.ret, ⟨env, objs⟩) = retK keep m objs (res.map (gE env)) := rfl

theorem endK_hd {res : List Nat} {keep : Bool} {m : Nat} {s : St} {env : Env} {objs : Store} (h : hd res [] s = some ⟨env, objs⟩) : endK res keep m (.ret, s) = retK keep m objs (res.map (gE env)) := by
  have h : (⟨restrict res s.env, s.objs⟩ : St) = ⟨env, objs⟩ := Option.some.inj h
  injection h with h1 h2
  subst h1 h2
  simp only [endK]
  congr 1
  exact List.map_congr_left fun t ht => by rw [gE_restrict, if_pos ht]

theorem runFun_eq {np : Nat} {res : List Nat} {keep : Bool} {code : AC} {sp : Option Nat} {args : List AVal} {os : List Obj} (h : args.length = np) :
    runFun K ⟨np, res, keep, code, sp⟩ args os = bnd (exec K code (enter args os)) (endK res keep os.length) := by
  simp only [runFun, h, if_true, bnd]
  cases exec K code (enter args os) with
  | none => rfl
  | some r => obtain ⟨x, ⟨env, objs⟩⟩ := r; cases x <;> simp [retE_eq, endK]

theorem runS_none {fn : AFun} (h : fn.split = none) (args : List AVal) (os : List Obj) : runS K fn args os = runFun K fn args os := by
  simp only [runS, h]


theorem wrap_i64_all {n : Int} (h : -9223372036854775808 ≤ n) (h' : n < 9223372036854775808) : IntKind.wrap .i64 n = n := by
  have : IntKind.wrap .i64 n = if n % 2 ^ 64 ≥ 2 ^ 63 then n % 2 ^ 64 - 2 ^ 64 else n % 2 ^ 64 := by simp [IntKind.wrap, IntKind.bits, IntKind.signed]
  rw [this]
  omega
theorem wrap_i64 {n : Int} (h : -1000000000000000 < n) (h' : n < 1000000000000000) : IntKind.wrap .i64 n = n := by
  have : IntKind.wrap .i64 n = if n % 2 ^ 64 ≥ 2 ^ 63 then n % 2 ^ 64 - 2 ^ 64 else n % 2 ^ 64 := by simp [IntKind.wrap, IntKind.bits, IntKind.signed]
  rw [this]
  omega

/-! ### what an evaluation comes to -/

def Ev {α : Type} (x : Option α) (Q : α → Prop) : Prop := ∃ r, x = some r ∧ Q r
@[congr] theorem Ev_congr {α : Type} {x x' : Option α} {Q : α → Prop} (h : x = x') : Ev x Q = Ev x' Q := by rw [h]
theorem Ev_some {α : Type} (a : α) (Q : α → Prop) : Ev (some a) Q = Q a := by simp [Ev]
theorem Ev_none {α : Type} (Q : α → Prop) : Ev none Q = False := by simp [Ev]
theorem Ev.eq {α : Type} {x : Option α} {a : α} (h : Ev x (fun r => r = a)) : x = some a := by obtain ⟨r, h, rfl⟩ := h; exact h
theorem Ev.mono {α : Type} {x : Option α} {Q Q' : α → Prop} (h : Ev x Q) (hq : ∀ r, Q r → Q' r) : Ev x Q' := by obtain ⟨r, h, h'⟩ := h; exact ⟨r, h, hq r h'⟩
/-- what comes next, behind what has a lemma -/
theorem ev_bnd {α β : Type} {x : Option α} {f : α → Option β} {Q : β → Prop} (R : α → Prop) (h : Ev x R) (hf : ∀ a, R a → Ev (f a) Q) : Ev (bnd x f) Q := by
  obtain ⟨r, rfl, hr⟩ := h
  exact hf r hr
theorem ev_bnd_iff {α β : Type} (x : Option α) (f : α → Option β) (Q : β → Prop) : Ev (bnd x f) Q = Ev x fun a => Ev (f a) Q := by
  apply propext
  constructor
  · rintro ⟨r, h, hq⟩
    cases x with
    | none => cases h
    | some a => exact ⟨a, rfl, r, h, hq⟩
  · rintro ⟨a, rfl, r, h, hq⟩
    exact ⟨r, h, hq⟩
/-- one round of a loop, and what becomes of it -/
def loopQ (c : AC) (Q : AEx × St → Prop) : AEx × St → Prop
  | (.normal, s) => Ev (loopLim (exec K c) s) Q
  | (.exit id, s) => Q (.exit id, s)
  | (.ret, s) => Q (.ret, s)
theorem loopQ_n (c : AC) (Q : AEx × St → Prop) (s : St) : loopQ K c Q (.normal, s) = Ev (loopLim (exec K c) s) Q := rfl
theorem loopQ_e (c : AC) (Q : AEx × St → Prop) (id : Nat) (s : St) : loopQ K c Q (.exit id, s) = Q (.exit id, s) := rfl
theorem loopQ_r (c : AC) (Q : AEx × St → Prop) (s : St) : loopQ K c Q (.ret, s) = Q (.ret, s) := rfl
variable {K} in
theorem ev_loop {c : AC} {s : St} {Q : AEx × St → Prop} (h : Ev (exec K c s) (loopQ K c Q)) : Ev (loopLim (exec K c) s) Q := by
  obtain ⟨⟨x, s'⟩, h1, h2⟩ := h
  cases x with
  | normal =>
    obtain ⟨r, h3, h4⟩ := h2
    exact ⟨r, loop_next h1 h3, h4⟩
  | exit id => exact ⟨_, loop_done h1 (by simp), h2⟩
  | ret => exact ⟨_, loop_done h1 (by simp), h2⟩

theorem callT_ev {tbl : FuncId → Option AFun} {f : FuncId} {fn : AFun} (hf : tbl f = some fn) (hs : fn.split = none) {args : List AVal} {os : List Obj} {r : AVal × List Obj} (h : Ev (runFun (callT tbl) fn args os) (· = r)) : callT tbl f args os = some r :=
  callT_of hf (by rw [runS_none _ hs]; exact h.eq)

def asB : Dat → Option UInt8
  | .int .u8 n => some (UInt8.ofNat n.toNat)
  | _ => none
/-- a slice of bytes as a string -/
def b2sE (ρ : Look) (v : AVal) : Option Out := match elemsOf ρ 1 v with
  | some l => match allSome (l.map asB) with
    | some s => some (.dat (.str s), [])
    | none => none
  | none => none
theorem opE_b2s (site : Nat) (x : AX) (g : Nat → AVal) (ρ : Look) : opE K site (.b2s x) g ρ = b2sE ρ (evX g x) := by
  simp only [opE, b2sE]
  cases elemsOf ρ 1 (evX g x) with
  | none => rfl
  | some l => rfl
theorem take_all {α : Type} {l : List α} {n : Nat} (h : l.length ≤ n) : l.take n = l := List.take_of_length_le h

theorem intE_add (k : IntKind) (a b : Int) : intE .add k a b = some (.dat (.int k (k.wrap (a + b)))) := rfl
theorem intE_sub (k : IntKind) (a b : Int) : intE .sub k a b = some (.dat (.int k (k.wrap (a - b)))) := rfl
theorem intE_mul (k : IntKind) (a b : Int) : intE .mul k a b = some (.dat (.int k (k.wrap (a * b)))) := rfl
theorem intE_quo (k : IntKind) (a b : Int) : intE .quo k a b = if b = 0 then none else some (.dat (.int k (k.wrap (a.tdiv b)))) := rfl
theorem intE_rem (k : IntKind) (a b : Int) : intE .rem k a b = if b = 0 then none else some (.dat (.int k (a.tmod b))) := rfl
theorem intE_eql (k : IntKind) (a b : Int) : intE .eql k a b = some (.dat (.bool (decide (a = b)))) := rfl
theorem intE_neq (k : IntKind) (a b : Int) : intE .neq k a b = some (.dat (.bool (!decide (a = b)))) := rfl
theorem intE_lss (k : IntKind) (a b : Int) : intE .lss k a b = some (.dat (.bool (decide (a < b)))) := rfl
theorem intE_leq (k : IntKind) (a b : Int) : intE .leq k a b = some (.dat (.bool (decide (a ≤ b)))) := rfl
theorem intE_gtr (k : IntKind) (a b : Int) : intE .gtr k a b = some (.dat (.bool (decide (a > b)))) := rfl
theorem intE_geq (k : IntKind) (a b : Int) : intE .geq k a b = some (.dat (.bool (decide (a ≥ b)))) := rfl
theorem unE_neg (k : IntKind) (n : Int) : unE .neg (.dat (.int k n)) = some (.dat (.int k (k.wrap (0 - n)))) := rfl
theorem unE_not (b : Bool) : unE .not (.dat (.bool b)) = some (.dat (.bool (!b))) := rfl
/-- bits of numbers that are no negative ones -/
theorem intE_bits {k : IntKind} {a b : Nat} (hk : k.signed = false) (ha : a < 2 ^ k.bits) (hb : b < 2 ^ k.bits) :
    intE .and k a b = some (.dat (.int k ((a &&& b : Nat) : Int))) ∧ intE .or k a b = some (.dat (.int k ((a ||| b : Nat) : Int))) ∧ intE .xor k a b = some (.dat (.int k ((a ^^^ b : Nat) : Int))) := by
  have hw : ∀ n : Nat, n < 2 ^ k.bits → IntKind.wrap k (n : Int) = (n : Int) := by
    intro n hn
    have h2 : (n : Int) < 2 ^ k.bits := by exact_mod_cast hn
    have : IntKind.wrap k (n : Int) = (n : Int) % 2 ^ k.bits := by simp [IntKind.wrap, hk]
    rw [this]
    exact Int.emod_eq_of_lt (by omega) h2
  have e : ∀ n : Nat, BitVec.ofInt k.bits (n : Int) = BitVec.ofNat k.bits n := fun n => BitVec.ofInt_natCast ..
  simp only [intE, e, BitVec.toNat_and, BitVec.toNat_or, BitVec.toNat_xor, BitVec.toNat_ofNat, Nat.mod_eq_of_lt ha, Nat.mod_eq_of_lt hb]
  refine ⟨?_, ?_, ?_⟩
  · rw [hw _ (Nat.and_lt_two_pow a hb)]
  · rw [hw _ (Nat.or_lt_two_pow ha hb)]
  · rw [hw _ (Nat.xor_lt_two_pow ha hb)]
theorem bits_u8 : IntKind.bits .u8 = 8 := rfl
theorem bits_u16 : IntKind.bits .u16 = 16 := rfl
theorem bits_u32 : IntKind.bits .u32 = 32 := rfl
theorem bits_u64 : IntKind.bits .u64 = 64 := rfl
theorem bits_i64 : IntKind.bits .i64 = 64 := rfl
theorem wrap_u8 (n : Int) : IntKind.wrap .u8 n = n % 256 := by simp [IntKind.wrap, IntKind.bits, IntKind.signed]
theorem wrap_u16 (n : Int) : IntKind.wrap .u16 n = n % 65536 := by simp [IntKind.wrap, IntKind.bits, IntKind.signed]
theorem wrap_u32 (n : Int) : IntKind.wrap .u32 n = n % 4294967296 := by simp [IntKind.wrap, IntKind.bits, IntKind.signed]
theorem wrap_u64 (n : Int) : IntKind.wrap .u64 n = n % 18446744073709551616 := by simp [IntKind.wrap, IntKind.bits, IntKind.signed]
theorem fdiv_pos {a b : Int} (h : 0 ≤ b) : a.fdiv b = a / b := Int.fdiv_eq_ediv_of_nonneg a h
theorem tdiv_pos {a b : Int} (h : 0 ≤ a) : a.tdiv b = a / b := Int.tdiv_eq_ediv_of_nonneg h
theorem tmod_pos {a b : Int} (h : 0 ≤ a) : a.tmod b = a % b := Int.tmod_eq_emod_of_nonneg h

attribute [simp ↓ high] opE_b2s
attribute [simp] take_all bits_u8 bits_u16 bits_u32 bits_u64 bits_i64 wrap_u8 wrap_u16 wrap_u32 wrap_u64 wrap_i64 fdiv_pos tdiv_pos tmod_pos
attribute [simp] Ev_some Ev_none loopQ_n loopQ_e loopQ_r bnd_some bnd_none seqK_n seqK_e seqK_r blkK_n blkK_e blkK_r condK_t condK_f exec_skip exec_exit exec_ret exec_reg exec_seq exec_block exec_cond exec_loop runOps_nil runOps_cons opsK_eq logOf_f logOf_t pairsK pairOk logAt meets regK_eq runReg_hd hd_eq restrict_nil restrict_cons aoE_plain aoE_guard grdK_b grdK_u putE_some putE_none gE_miss pOs pO gO updL opE evX binE intE_add intE_sub intE_mul intE_quo intE_rem intE_eql intE_neq intE_lss intE_leq intE_gtr intE_geq shiftE List.getElem?_cons_zero intOf? nilPE nilSE cmpE boolE strE ptrAdd loadE unE_neg unE_not endK_n endK_r retK retK1 retK2 retK3 ressE resE dec decLeaf decLeaves decAll frz collect gather enter AVal.idsL AVal.ids Obj.ids AVal.renL AVal.ren Obj.ren toPos indexIn fromPos List.range_succ newVer
  Dat.width splice storeE elemsOf srcOf fillE lenE lenS iAddrE sliceE sliceS namesE nameL lookN dropE partE opE.argsE zeroDat touch scalV scalD mmE mmsE room

end
end Go.Am
