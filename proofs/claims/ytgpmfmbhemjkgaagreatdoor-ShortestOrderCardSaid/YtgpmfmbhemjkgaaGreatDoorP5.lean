/- Parts of the proofs of the statement, joined and made short: EY. -/
import Derived.Test.YtgpmfmbhemjkgaaGreatDoorP4
set_option linter.unusedVariables false
set_option linter.unusedSimpArgs false
set_option linter.unusedSectionVars false
namespace Go.Am
variable [Glob]
def yK4 (j m : Nat) (e : AEx) (s : St) : Option TObj → Option (AVal × List TObj)
 | some (.plain (.blk (.loop k .busy env))) => retK [.t 0] false m ⟨[(0,.dat (.bool (stOf e == .ready)))],pT s.objs (0,j) (.plain (.blk (.loop k (stOf e) env)))⟩
 | _ => none
def yK3 (j m : Nat) (p : AEx × St) : Option (AVal × List TObj):=yK4 j m p.1 p.2 (gT p.2.objs (0,j))
noncomputable def yK2 (K : Orc) (lp : ALoop) (j m : Nat) (s : St) : Option TObj → Option (AVal × List TObj)
 | some (.plain (.blk (.loop k .ready env))) => bnd (exec K lp.body ⟨s.env,pT s.objs (0,j) (.plain (.blk (.loop k .busy env)))⟩) (yK3 j m)
 | _ => none
noncomputable def yK1 (K : Orc) (lp : ALoop) (j m : Nat) : AEx × St → Option (AVal × List TObj)
 | (.normal,s) => yK2 K lp j m s (gT s.objs (0,j))
 | _ => none
@[simp] theorem yK1_n (K : Orc) (lp : ALoop) (j m : Nat) (env : Env) (objs : zta7) : yK1 K lp j m (.normal,⟨env,objs⟩) = yK2 K lp j m ⟨env,objs⟩ (gT objs (0,j)):=rfl
@[simp] theorem yK2_s (K : Orc) (lp : ALoop) (j m : Nat) (k : Nat) (e env : Env) (objs : zta7) : yK2 K lp j m ⟨e,objs⟩ (some (.plain (.blk (.loop k .ready env)))) = bnd (exec K lp.body ⟨e,pT objs (0,j) (.plain (.blk (.loop k .busy env)))⟩) (yK3 j m):=rfl
@[simp] theorem yK3_s (j m : Nat) (x : AEx) (env : Env) (objs : zta7) : yK3 j m (x,⟨env,objs⟩) = yK4 j m x ⟨env,objs⟩ (gT objs (0,j)):=rfl
@[simp] theorem yK4_s (j m k : Nat) (x : AEx) (e env : Env) (objs : zta7) : yK4 j m x ⟨e,objs⟩ (some (.plain (.blk (.loop k .busy env)))) = retK [.t 0] false m ⟨[(0,.dat (.bool (stOf x == .ready)))],pT objs (0,j) (.plain (.blk (.loop k (stOf x) env)))⟩:=rfl
@[simp] theorem stOf_n : stOf .normal = .ready:=rfl
@[simp] theorem stOf_r : stOf .ret = .done .ret:=rfl
@[simp] theorem stOf_e (k : Nat) : stOf (.exit k) = .done (.exit k):=rfl
@[simp] theorem rdy (x : AEx) : (LSt.done x == LSt.ready) = false:=rfl
@[simp] theorem rdy' : (LSt.ready == LSt.ready) = true:=rfl
attribute [congr] exec_congr
theorem yield_ev {tbl : Tab} {k j : Nat} {env : Env} {lp : ALoop} {args : List AVal} {os : List TObj} {r : AVal × List TObj} (hl : args.getLast? = some (.bref true ((0,j),0,0))) (ho : os[j]? = some (.plain (.blk (.loop k .ready env))))
  (hk : tbl.lp k = some lp) (hn : args.length = lp.ps.length + 1) (h : Ev (bnd (exec (callT tbl) lp.assign ⟨lp.ps.zip args ++ env,(enter [] os).objs⟩) (yK1 (callT tbl) lp j os.length)) (· = r)) : callT tbl YID args os = some r:=by
 apply callT_yield
 rw [← h.eq]
 simp only [yieldE,yieldG,hl,ho,hk,hn,if_true,bnd]
 cases exec (callT tbl) lp.assign ⟨lp.ps.zip args ++ env,(enter [] os).objs⟩ with
 | none => rfl
 | some q =>
  obtain ⟨x,s1⟩:=q
  cases x <;> simp only [yK1]
  generalize gT s1.objs (0,j) = o1
  rcases o1 with _ | o1
  ·rfl
  ·cases o1 with
   | plain o =>
    cases o with
    | blk b =>
     cases b with
     | loop k1 st1 env1 =>
      cases st1 <;> simp only [yK2]
      simp only [bnd]
      cases exec (callT tbl) lp.body ⟨s1.env,pT s1.objs (0,j) (.plain (.blk (.loop k1 .busy env1)))⟩ with
      | none => rfl
      | some q2 =>
       obtain ⟨e,s2⟩:=q2
       simp only [yK3]
       generalize gT s2.objs (0,j) = o2
       rcases o2 with _ | o2
       ·rfl
       ·cases o2 with
        | plain o =>
         cases o with
         | blk b =>
          cases b with
          | loop k2 st2 env2 => cases st2 <;> simp only [yK4,retE_eq]
          | _ => rfl
         | _ => rfl
        | _ => rfl
     | _ => rfl
    | _ => rfl
   | _ => rfl
def rfK3 (env : Env) (objs : zta7) (site : Nat) : Option TObj → Option (AEx × St)
 | some (.plain (.blk (.loop _ st _))) => bnd st.out fun x => some (x,⟨env,pT objs (site + 1,0) (.plain (.blk .dead))⟩)
 | _ => none
def rfK2 (env : Env) (objs : zta7) (site : Nat) (p : AVal × List (RId × TObj)) : Option (AEx × St):=rfK3 env (pTs objs p.2) site (gT (pTs objs p.2) (site + 1,0))
noncomputable def rfK (K : Orc) (k site : Nat) (caps : List Nat) (env : Env) (objs : zta7) : AVal → Option (AEx × St)
 | .fn f vs => if f = YID ∨ BIGF ≤ f then none else if (gT objs (site + 1,0)).isSome then none else
   bnd (callE K (site + 1) f ((.bref true ((site + 1,0),0,0),true) :: vs.map fun v => (v,true)) false
     (gT (pT objs (site + 1,0) (.plain (.blk (.loop k .ready (caps.map fun t => (t,gE env t)))))))) (rfK2 env (pT objs (site + 1,0) (.plain (.blk (.loop k .ready (caps.map fun t => (t,gE env t)))))) site)
 | _ => none
@[simp] theorem rfK_f (K : Orc) (k site : Nat) (caps : List Nat) (env : Env) (objs : zta7) (f : FuncId) (vs : List AVal) : rfK K k site caps env objs (.fn f vs) = if f = YID ∨ BIGF ≤ f then none else if (gT objs (site + 1,0)).isSome then none else
   bnd (callE K (site + 1) f ((.bref true ((site + 1,0),0,0),true) :: vs.map fun v => (v,true)) false
     (gT (pT objs (site + 1,0) (.plain (.blk (.loop k .ready (caps.map fun t => (t,gE env t)))))))) (rfK2 env (pT objs (site + 1,0) (.plain (.blk (.loop k .ready (caps.map fun t => (t,gE env t)))))) site):=rfl
@[simp] theorem rfK2_s (env : Env) (objs : zta7) (site : Nat) (v : AVal) (us : List (RId × TObj)) : rfK2 env objs site (v,us) = rfK3 env (pTs objs us) site (gT (pTs objs us) (site + 1,0)):=rfl
@[simp] theorem rfK3_s (env : Env) (objs : zta7) (site k : Nat) (st : LSt) (e : Env) : rfK3 env objs site (some (.plain (.blk (.loop k st e)))) = bnd st.out fun x => some (x,⟨env,pT objs (site + 1,0) (.plain (.blk .dead))⟩):=rfl
@[simp] theorem out_r : LSt.out .ready = some .normal:=rfl
@[simp] theorem out_d (e : AEx) : LSt.out (.done e) = some e:=rfl
theorem exec_rfK (K : Orc) (x : AX) (k site : Nat) (caps : List Nat) (env : Env) (objs : zta7) : exec K (.rf x k site caps) ⟨env,objs⟩ = rfK K k site caps env objs (evX (gE env) x):=by
 simp only [exec,rfE]
 generalize evX (gE env) x = v
 cases v with
 | fn f vs =>
  simp only [rfK]
  by_cases h : f = YID ∨ BIGF ≤ f
  ·rw [if_pos h,if_pos h]
  ·rw [if_neg h,if_neg h]
   cases gT objs (site + 1,0) with
   | some o => simp
   | none =>
    simp only [Option.isSome_none,Bool.false_eq_true,if_false,bnd]
    generalize callE K (site + 1) f _ false _ = q
    cases q with
    | none => rfl
    | some q =>
     obtain ⟨v,us⟩:=q
     simp only [rfK2]
     generalize gT (pTs _ us) (site + 1,0) = o
     cases o with
     | none => rfl
     | some o =>
      cases o with
      | plain o =>
       cases o with
       | blk b =>
        cases b with
        | loop k st e => cases st <;> rfl
        | _ => rfl
       | _ => rfl
      | _ => rfl
 | _ => rfl
attribute [simp] exec_rfK
@[simp] theorem splice_z {α : Type} (a : α) (l : List α) (v : α) : splice (a :: l) 0 [v] = v :: l:=rfl
@[simp] theorem splice_n {α : Type} (a : α) (l v : List α) (n : Nat) : splice (a :: l) (n + 1) v = a :: splice l n v:=by
 have e : n + 1 + v.length = (n + v.length) + 1:=by omega
 simp only [splice,e,List.take_succ_cons,List.drop_succ_cons,List.cons_append]
theorem zwb7 {α : Type} (l v : List α) (h : v.length = l.length) : splice l 0 v = v:=by
 simp only [splice,List.take_zero,List.nil_append,Nat.zero_add,h,List.drop_length,List.append_nil]
def scan {α β : Type} (f : Nat → α → Option β) : List α → Nat → Option β
 | [],_ => none
 | x :: r,i => match f i x with
  | some b => some b
  | none => scan f r (i + 1)
theorem scan_drop {α β : Type} {f : Nat → α → Option β} {l : List α} {i : Nat} {x : α} (h : l[i]? = some x) : scan f (l.drop i) i = match f i x with
  | some b => some b
  | none => scan f (l.drop (i + 1)) (i + 1):=by rw [zec7 h]; rfl
def oQ {β : Type} (E : AEx × St → Prop) (P : β → AEx × St → Prop) : Option β → AEx × St → Prop
 | none => E
 | some b => P b
theorem znb7 {α β : Type} {K : Orc} {c : AC} {live drop : List Nat} (l : List α) (f : Nat → α → Option β) (hl : l.length < 100000000000000) (I : Nat → St) (E : AEx × St → Prop) (P : β → AEx × St → Prop)
  (h : ∀ (i : Nat) x s,l[i]? = some x → (∀ h : i < l.length,l[i] = x) → (i : Int) < l.length → Ix i → hd live drop s = some (I i) → Ev (exec K c s) (oQ (fun q => q.1 = .normal ∧ hd live drop q.2 = some (I (i + 1))) (fun b q => q.1 ≠ .normal ∧ P b q) (f i x)))
  (he : ∀ s,hd live drop s = some (I l.length) → Ev (exec K c s) (fun q => q.1 ≠ .normal ∧ E q)) (s : St) (hs : hd live drop s = some (I 0)) : Ev (zga7 (exec K c) s) (oQ E P (scan f l 0)):=by
 refine zjb7 (live:=live) (drop:=drop) l hl I (fun i => oQ E P (scan f (l.drop i) i)) (fun i x s h1 h2 h3 h4 hs => ?_) (fun s hs => ?_) s hs
 ·have:=h i x s h1 h2 h3 h4 hs
  have h5:=scan_drop (f:=f) h1
  refine this.mono ?_
  rintro ⟨e,s'⟩ hq
  cases hf : f i x with
  | none =>
   rw [hf] at hq h5
   obtain ⟨rfl,hq⟩:=hq
   exact ⟨hq,fun r h => by show oQ E P _ _; rw [h5]; exact h⟩
  | some b =>
   rw [hf] at hq h5
   obtain ⟨hn,hq⟩:=hq
   cases e
   ·exact absurd rfl hn
   ·show oQ E P _ _
    rw [h5]; exact hq
   ·show oQ E P _ _
    rw [h5]; exact hq
 ·refine (he s hs).mono ?_
  rintro ⟨e,s'⟩ ⟨hn,hq⟩
  have e0 : l.drop l.length = []:=List.drop_of_length_le (Nat.le_refl _)
  cases e
  ·exact absurd rfl hn
  ·show oQ E P _ _
   rw [e0]; exact hq
  ·show oQ E P _ _
   rw [e0]; exact hq
@[simp] theorem oQ_n {β : Type} (E : AEx × St → Prop) (P : β → AEx × St → Prop) (q : AEx × St) : oQ E P none q = E q:=rfl
@[simp] theorem oQ_s {β : Type} (E : AEx × St → Prop) (P : β → AEx × St → Prop) (b : β) (q : AEx × St) : oQ E P (some b) q = P b q:=rfl
end Go.Am
