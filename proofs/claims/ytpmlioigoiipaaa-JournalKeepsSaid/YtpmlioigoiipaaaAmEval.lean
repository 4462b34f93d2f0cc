/- The abstract machine: a computable evaluator with fuel, for calls whose arguments are all known. -/
import Derived.Test.YtpmlioigoiipaaaAmLim
set_option linter.unusedVariables false
namespace Go.Am

def execF (K : Orc) (m : Nat) : AC → St → Option (AEx × St)
  | .skip, s => some (.normal, s)
  | .reg r, s => match runReg K r s with
    | some s => some (.normal, s)
    | none => none
  | .seq a b, s =>
    match execF K m a s with
    | some (.normal, s') => execF K m b s'
    | r => r
  | .cond x a b, s =>
    match evX (gE s.env) x with
    | .dat (.bool t) => if t then execF K m a s else execF K m b s
    | _ => none
  | .block id c, s =>
    match execF K m c s with
    | some (.exit id', s') => if id' = id then some (.normal, s') else some (.exit id', s')
    | r => r
  | .loop c, s => iter (execF K m c) m s
  | .exit id, s => some (.exit id, s)
  | .ret, s => some (.ret, s)

theorem execF_exec {K : Orc} {m : Nat} : ∀ {c : AC} {s : St} {r : AEx × St}, execF K m c s = some r → exec K c s = some r := by
  intro c
  induction c with
  | skip => intro s r h; exact h
  | reg _ => intro s r h; exact h
  | seq a b iha ihb =>
    intro s r h
    simp only [execF] at h
    simp only [exec]
    cases ha : execF K m a s with
    | none => rw [ha] at h; cases h
    | some p =>
      rw [ha] at h
      rw [iha ha]
      obtain ⟨x, s'⟩ := p
      cases x with
      | normal => exact ihb h
      | exit id => exact h
      | ret => exact h
  | cond x a b iha ihb =>
    intro s r h
    simp only [execF] at h
    simp only [exec]
    split at h
    · rename_i t ht
      simp only [ht]
      cases t with
      | true => exact iha h
      | false => exact ihb h
    · cases h
  | block id c ih =>
    intro s r h
    simp only [execF] at h
    simp only [exec]
    cases ha : execF K m c s with
    | none => rw [ha] at h; cases h
    | some p =>
      rw [ha] at h
      rw [ih ha]
      exact h
  | loop c ih =>
    intro s r h
    simp only [execF] at h
    simp only [exec]
    exact loopLim_iff.2 ⟨m, iter_mono (fun s r h => ih h) h⟩
  | exit _ => intro s r h; exact h
  | ret => intro s r h; exact h

def runF (K : Orc) (m : Nat) (fn : AFun) (args : List AVal) (os : List Obj) : Option (AVal × List Obj) :=
  if args.length = fn.np then
    match execF K m fn.code (enter args os) with
    | some (.normal, s) => retE fn os.length s
    | some (.ret, s) => retE fn os.length s
    | _ => none
  else none

theorem runF_run {K : Orc} {m : Nat} {fn : AFun} {args : List AVal} {os : List Obj} {r : AVal × List Obj} (h : runF K m fn args os = some r) : runFun K fn args os = some r := by
  simp only [runF] at h
  simp only [runFun]
  split at h
  · rename_i hl
    rw [if_pos hl]
    cases he : execF K m fn.code (enter args os) with
    | none => rw [he] at h; cases h
    | some p =>
      rw [he] at h
      rw [execF_exec he]
      exact h
  · cases h

def isEmp : Option AVal → Bool
  | some (.dat (.sl [])) => true
  | _ => false

mutual
def Dat.same : Dat → Dat → Bool
  | .int k a, .int k' b => k == k' && a == b
  | .bool a, .bool b => a == b
  | .str a, .str b => a == b
  | .sl a, .sl b => Dat.sameL a b
  | .agg a, .agg b => Dat.sameL a b
  | _, _ => false
def Dat.sameL : List Dat → List Dat → Bool
  | [], [] => true
  | a :: r, b :: s => Dat.same a b && Dat.sameL r s
  | _, _ => false
end

mutual
theorem Dat.same_eq : ∀ {a b : Dat}, Dat.same a b = true → a = b
  | .int k a, .int k' b, h => by simp [Dat.same] at h; rw [h.1, h.2]
  | .bool a, .bool b, h => by simp [Dat.same] at h; rw [h]
  | .str a, .str b, h => by simp [Dat.same] at h; rw [h]
  | .sl a, .sl b, h => by simp only [Dat.same] at h; rw [Dat.sameL_eq h]
  | .agg a, .agg b, h => by simp only [Dat.same] at h; rw [Dat.sameL_eq h]
  | .int _ _, .bool _, h => by simp [Dat.same] at h
  | .int _ _, .str _, h => by simp [Dat.same] at h
  | .int _ _, .sl _, h => by simp [Dat.same] at h
  | .int _ _, .agg _, h => by simp [Dat.same] at h
  | .bool _, .int _ _, h => by simp [Dat.same] at h
  | .bool _, .str _, h => by simp [Dat.same] at h
  | .bool _, .sl _, h => by simp [Dat.same] at h
  | .bool _, .agg _, h => by simp [Dat.same] at h
  | .str _, .int _ _, h => by simp [Dat.same] at h
  | .str _, .bool _, h => by simp [Dat.same] at h
  | .str _, .sl _, h => by simp [Dat.same] at h
  | .str _, .agg _, h => by simp [Dat.same] at h
  | .sl _, .int _ _, h => by simp [Dat.same] at h
  | .sl _, .bool _, h => by simp [Dat.same] at h
  | .sl _, .str _, h => by simp [Dat.same] at h
  | .sl _, .agg _, h => by simp [Dat.same] at h
  | .agg _, .int _ _, h => by simp [Dat.same] at h
  | .agg _, .bool _, h => by simp [Dat.same] at h
  | .agg _, .str _, h => by simp [Dat.same] at h
  | .agg _, .sl _, h => by simp [Dat.same] at h
theorem Dat.sameL_eq : ∀ {a b : List Dat}, Dat.sameL a b = true → a = b
  | [], [], _ => rfl
  | a :: r, b :: s, h => by simp only [Dat.sameL, Bool.and_eq_true] at h; rw [Dat.same_eq h.1, Dat.sameL_eq h.2]
  | [], _ :: _, h => by simp [Dat.sameL] at h
  | _ :: _, [], h => by simp [Dat.sameL] at h
end

/-- both answers are the same datum -/
def sameR : Option (AVal × List Obj) → Option (AVal × List Obj) → Option (AVal × List Obj)
  | some (.dat a, []), some (.dat b, []) => if Dat.same a b then some (.dat a, []) else none
  | _, _ => none

def runSF (K : Orc) (m : Nat) (fn : AFun) (args : List AVal) (os : List Obj) : Option (AVal × List Obj) :=
  match fn.split with
  | none => runF K m fn args os
  | some i => if isEmp args[i]? then sameR (runF K m fn (args.set i (.emp true)) os) (runF K m fn (args.set i (.emp false)) os) else runF K m fn args os

theorem sameR_eq {x y : Option (AVal × List Obj)} {r : AVal × List Obj} (h : sameR x y = some r) : x = some r ∧ y = some r := by
  unfold sameR at h
  split at h
  · split at h
    · rename_i hs
      cases h
      rw [Dat.same_eq hs]
      exact ⟨rfl, rfl⟩
    · cases h
  · cases h

theorem runSF_run {K : Orc} {m : Nat} {fn : AFun} {args : List AVal} {os : List Obj} {r : AVal × List Obj} (h : runSF K m fn args os = some r) : runS K fn args os = some r := by
  simp only [runSF] at h
  simp only [runS]
  split at h
  · rename_i hi
    rw [hi]
    exact runF_run h
  · rename_i i hi
    rw [hi]
    dsimp only
    by_cases he : isEmp args[i]? = true
    · rw [if_pos he] at h
      obtain ⟨h1, h2⟩ := sameR_eq h
      have : args[i]? = some (.dat (.sl [])) := by
        revert he
        cases args[i]? with
        | none => simp [isEmp]
        | some v => cases v with
          | dat d => cases d with
            | sl l => cases l <;> simp [isEmp]
            | _ => simp [isEmp]
          | _ => simp [isEmp]
      rw [this]
      simp only [runF_run h1, runF_run h2, if_true]
    · rw [if_neg he] at h
      have hr := runF_run h
      revert he
      cases args[i]? with
      | none => intro _; exact hr
      | some v => cases v with
        | dat d => cases d with
          | sl l => cases l with
            | nil => intro he; simp [isEmp] at he
            | cons _ _ => intro _; exact hr
          | _ => intro _; exact hr
        | _ => intro _; exact hr

def Kf (tbl : FuncId → Option AFun) (m : Nat) : Nat → Orc
  | 0 => fun _ _ _ => none
  | n + 1 => fun f args os => match tbl f with
    | some fn => runSF (Kf tbl m n) m fn args os
    | none => none

theorem Kf_kn {tbl : FuncId → Option AFun} {m : Nat} : ∀ n, OrcLe (Kf tbl m n) (Kn tbl n)
  | 0 => fun _ _ _ _ h => by cases h
  | n + 1 => fun f args os r h => by
    simp only [Kf] at h
    simp only [Kn]
    cases hf : tbl f with
    | none => rw [hf] at h; cases h
    | some fn => rw [hf] at h; exact runS_mono (Kf_kn n) (runSF_run h)

theorem callT_kf {tbl : FuncId → Option AFun} {m n : Nat} {f : FuncId} {args : List AVal} {os : List Obj} {r : AVal × List Obj} (h : Kf tbl m n f args os = some r) : callT tbl f args os = some r :=
  callT_iff.2 ⟨n, Kf_kn n _ _ _ _ h⟩

end Go.Am
