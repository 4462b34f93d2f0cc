/- Parts of the proofs of the statement, joined and made short: WTbl RcMath RcEv WA WA1. -/
import Derived.Test.YtgaeajfoiigbkaaGreatDoorP5
import Derived.Test.YtgaeajfoiigbkaaGreatDoorP9
set_option linter.unusedVariables false
set_option linter.unusedSimpArgs false
set_option linter.unusedSectionVars false
namespace Go.Am.W
open Go.Proofs
def tfR : FuncId → Option AFun
 | 5 => some fn5
 | 19 => some fn19
 | 20 => some fn20
 | 21 => some fn21
 | 22 => some fn22
 | 23 => some fn23
 | 24 => some fn24
 | 40 => some fn40
 | 41 => some fn41
 | 42 => some fn42
 | 43 => some fn43
 | 44 => some fn44
 | 45 => some fn45
 | 46 => some fn46
 | 47 => some fn47
 | 62 => some fn62
 | 68 => some fn68
 | 70 => some fn70
 | 71 => some fn71
 | 72 => some fn72
 | 73 => some fn73
 | 74 => some fn74
 | 75 => some fn75
 | 76 => some fn76
 | 77 => some fn77
 | 78 => some fn78
 | 79 => some fn79
 | 80 => some fn80
 | 81 => some fn81
 | 82 => some fn82
 | 83 => some fn83
 | 84 => some fn84
 | 85 => some fn85
 | 86 => some fn86
 | 87 => some fn87
 | 88 => some fn88
 | 89 => some fn89
 | 99 => some fn99
 | 118 => some fn118
 | 119 => some fn119
 | 120 => some fn120
 | 121 => some fn121
 | 122 => some fn122
 | 123 => some fn123
 | 124 => some fn124
 | 125 => some fn125
 | 126 => some fn126
 | 127 => some fn127
 | 128 => some fn128
 | 129 => some fn129
 | 130 => some fn130
 | 131 => some fn131
 | 132 => some fn132
 | 133 => some fn133
 | 134 => some fn134
 | 135 => some fn135
 | _ => none
def lawR : Orc:=memoL [⟨15,[],.dat (.bool true)⟩] (fun _ _ _ => none)
def tblR : Tab:={ fn:=tfR,law:=lawR }
theorem loopsOK : LoopsOK Tryz.prog:=fun f fn c st h1 h2 h3 => by simp only [Glob.lps,h1,h2,h3]
theorem none_ok : SoundK Tryz.prog (fun _ _ _ => none):=by
 intro f args os v os' h
 cases h
theorem lawR_ok (h15 : EntOK Tryz.prog ⟨15,[],.dat (.bool true)⟩) : SoundK Tryz.prog lawR:=by
 refine memoL_ok ?_ none_ok
 intro e he
 rw [List.mem_singleton] at he
 rw [he]
 exact h15
theorem tblR_ok (h15 : EntOK Tryz.prog ⟨15,[],.dat (.bool true)⟩) : TblOK Tryz.prog tblR:=by
 refine ⟨fun f fn h => ?_,lawR_ok h15,fun k lp h => (by cases h),loopsOK,by kernel_rfl⟩
 simp only [tblR] at h
 unfold tfR at h
 split at h
 ·cases h; exact ⟨ann5,false,fn5,c5,rfl⟩
 ·cases h; exact ⟨ann19,false,fn19,c19,rfl⟩
 ·cases h; exact ⟨ann20,false,fn20,c20,rfl⟩
 ·cases h; exact ⟨ann21,false,fn21,c21,rfl⟩
 ·cases h; exact ⟨ann22,false,fn22,c22,rfl⟩
 ·cases h; exact ⟨ann23,false,fn23,c23,rfl⟩
 ·cases h; exact ⟨ann24,false,fn24,c24,rfl⟩
 ·cases h; exact ⟨ann40,false,fn40,c40,rfl⟩
 ·cases h; exact ⟨ann41,false,fn41,c41,rfl⟩
 ·cases h; exact ⟨ann42,false,fn42,c42,rfl⟩
 ·cases h; exact ⟨ann43,false,fn43,c43,rfl⟩
 ·cases h; exact ⟨ann44,false,fn44,c44,rfl⟩
 ·cases h; exact ⟨ann45,false,fn45,c45,rfl⟩
 ·cases h; exact ⟨ann46,false,fn46,c46,rfl⟩
 ·cases h; exact ⟨ann47,false,fn47,c47,rfl⟩
 ·cases h; exact ⟨ann62,false,fn62,c62,rfl⟩
 ·cases h; exact ⟨ann68,false,fn68,c68,rfl⟩
 ·cases h; exact ⟨ann70,false,fn70,c70,rfl⟩
 ·cases h; exact ⟨ann71,false,fn71,c71,rfl⟩
 ·cases h; exact ⟨ann72,false,fn72,c72,rfl⟩
 ·cases h; exact ⟨ann73,false,fn73,c73,rfl⟩
 ·cases h; exact ⟨ann74,false,fn74,c74,rfl⟩
 ·cases h; exact ⟨ann75,false,fn75,c75,rfl⟩
 ·cases h; exact ⟨ann76,false,fn76,c76,rfl⟩
 ·cases h; exact ⟨ann77,false,fn77,c77,rfl⟩
 ·cases h; exact ⟨ann78,false,fn78,c78,rfl⟩
 ·cases h; exact ⟨ann79,false,fn79,c79,rfl⟩
 ·cases h; exact ⟨ann80,false,fn80,c80,rfl⟩
 ·cases h; exact ⟨ann81,false,fn81,c81,rfl⟩
 ·cases h; exact ⟨ann82,false,fn82,c82,rfl⟩
 ·cases h; exact ⟨ann83,false,fn83,c83,rfl⟩
 ·cases h; exact ⟨ann84,false,fn84,c84,rfl⟩
 ·cases h; exact ⟨ann85,false,fn85,c85,rfl⟩
 ·cases h; exact ⟨ann86,false,fn86,c86,rfl⟩
 ·cases h; exact ⟨ann87,false,fn87,c87,rfl⟩
 ·cases h; exact ⟨ann88,false,fn88,c88,rfl⟩
 ·cases h; exact ⟨ann89,false,fn89,c89,rfl⟩
 ·cases h; exact ⟨ann99,false,fn99,c99,rfl⟩
 ·cases h; exact ⟨ann118,false,fn118,c118,rfl⟩
 ·cases h; exact ⟨ann119,false,fn119,c119,rfl⟩
 ·cases h; exact ⟨ann120,false,fn120,c120,rfl⟩
 ·cases h; exact ⟨ann121,false,fn121,c121,rfl⟩
 ·cases h; exact ⟨ann122,false,fn122,c122,rfl⟩
 ·cases h; exact ⟨ann123,false,fn123,c123,rfl⟩
 ·cases h; exact ⟨ann124,false,fn124,c124,rfl⟩
 ·cases h; exact ⟨ann125,false,fn125,c125,rfl⟩
 ·cases h; exact ⟨ann126,false,fn126,c126,rfl⟩
 ·cases h; exact ⟨ann127,false,fn127,c127,rfl⟩
 ·cases h; exact ⟨ann128,false,fn128,c128,rfl⟩
 ·cases h; exact ⟨ann129,false,fn129,c129,rfl⟩
 ·cases h; exact ⟨ann130,false,fn130,c130,rfl⟩
 ·cases h; exact ⟨ann131,false,fn131,c131,rfl⟩
 ·cases h; exact ⟨ann132,false,fn132,c132,rfl⟩
 ·cases h; exact ⟨ann133,false,fn133,c133,rfl⟩
 ·cases h; exact ⟨ann134,false,fn134,c134,rfl⟩
 ·cases h; exact ⟨ann135,false,fn135,c135,rfl⟩
 ·cases h
noncomputable abbrev KR : Orc:=callT tblR
end Go.Am.W

namespace Go.Rc
abbrev Clk:=List (Int × Int)
def cnt : Clk → Int → Int
 | [],_ => 0
 | (a,c) :: r,x => if a = x then c else cnt r x
def ok (lim : Int) : Option Int → Clk → Prop
 | _,[] => True
 | lo,(a,c) :: r => (∀ b,lo = some b → b < a) ∧ 1 ≤ c ∧ c ≤ lim ∧ ok lim (some a) r
def adv : Clk → Int → Clk
 | [],x => [(x,1)]
 | (a,c) :: r,x => if a = x then (a,c + 1) :: r else if x < a then (x,1) :: (a,c) :: r else (a,c) :: adv r x
def join : Clk → Clk → Clk
 | [],b => b
 | (a,c) :: r,[] => (a,c) :: r
 | (a,c) :: r,(b,d) :: s => if a = b then (a,max c d) :: join r s else if a < b then (a,c) :: join r ((b,d) :: s) else (b,d) :: join ((a,c) :: r) s
 termination_by a b => a.length + b.length
theorem cnt_lo {lim : Int} : ∀ {c : Clk} {b x : Int},ok lim (some b) c → x ≤ b → cnt c x = 0
 | [],_,_,_,_ => rfl
 | (a,c) :: r,b,x,h,hx => by
  have h1:=h.1 b rfl
  simp only [cnt]
  rw [if_neg (by omega),cnt_lo h.2.2.2 (by omega)]
theorem ok_lim {lim lim' : Int} (hl : lim ≤ lim') : ∀ {c : Clk} {lo : Option Int},ok lim lo c → ok lim' lo c
 | [],_,_ => trivial
 | (_,_) :: _,_,h => ⟨h.1,h.2.1,by have:=h.2.2.1; omega,ok_lim hl h.2.2.2⟩
theorem cnt_nonneg {lim : Int} : ∀ {c : Clk} {lo : Option Int} (x : Int),ok lim lo c → 0 ≤ cnt c x
 | [],_,_,_ => by simp [cnt]
 | (a,c) :: r,lo,x,h => by
  have:=h.2.1
  simp only [cnt]
  split
  ·omega
  ·exact cnt_nonneg x h.2.2.2
theorem adv_cnt {lim : Int} : ∀ {c : Clk} {lo : Option Int} (x y : Int),ok lim lo c → cnt (adv c x) y = cnt c y + if x = y then 1 else 0
 | [],_,x,y,_ => by simp [adv,cnt]
 | (a,c) :: r,lo,x,y,h => by
  simp only [adv]
  split
  ·rename_i e
   subst e
   simp only [cnt]
   split <;> simp
  ·rename_i e
   split
   ·rename_i e'
    simp only [cnt]
    by_cases hxy : x = y
    ·subst hxy
     have hr:=cnt_lo h.2.2.2 (x:=x) (by omega)
     simp [hr,e]
    ·simp [hxy]
   ·rename_i e'
    simp only [cnt]
    have ih:=adv_cnt x y h.2.2.2
    by_cases hay : a = y
    ·subst hay
     have : ¬ x = a:=fun h => e h.symm
     simp [this]
    ·simp [hay,ih]
theorem adv_ok {lim : Int} (hl : 0 ≤ lim) : ∀ {c : Clk} {lo : Option Int} {x : Int},ok lim lo c → (∀ b,lo = some b → b < x) → ok (lim + 1) lo (adv c x)
 | [],_,x,_,hx => ⟨hx,by omega,by omega,trivial⟩
 | (a,c) :: r,lo,x,h,hx => by
  have h1:=h.2.1
  have h2:=h.2.2.1
  simp only [adv]
  split
  ·rename_i e
   subst e
   exact ⟨h.1,by omega,by omega,ok_lim (by omega) h.2.2.2⟩
  ·rename_i e
   split
   ·rename_i e'
    exact ⟨hx,by omega,by omega,by simpa using e',h1,by omega,ok_lim (by omega) h.2.2.2⟩
   ·rename_i e'
    exact ⟨h.1,h1,by omega,adv_ok hl h.2.2.2 (by intro b hb; cases hb; omega)⟩
theorem join_ok {lim : Int} : ∀ (a b : Clk) (lo : Option Int),ok lim lo a → ok lim lo b → ok lim lo (join a b)
 | [],b,lo,ha,hb => by rw [join]; exact hb
 | (a,c) :: r,[],lo,ha,hb => by rw [join]; exact ha
 | (a,c) :: r,(b,d) :: s,lo,ha,hb => by
  have h1:=ha.2.1
  have h2:=ha.2.2.1
  have h3:=hb.2.1
  have h4:=hb.2.2.1
  rw [join]
  split
  ·rename_i e
   subst e
   exact ⟨ha.1,by omega,by omega,join_ok r s _ ha.2.2.2 hb.2.2.2⟩
  ·split
   ·rename_i e'
    exact ⟨ha.1,h1,h2,join_ok r _ _ ha.2.2.2 ⟨by simpa using e',hb.2⟩⟩
   ·rename_i e e'
    exact ⟨hb.1,h3,h4,join_ok _ s _ ⟨by simp; omega,ha.2⟩ hb.2.2.2⟩
 termination_by a b => a.length + b.length
theorem join_cnt {lim : Int} : ∀ (a b : Clk) (lo : Option Int) (x : Int),ok lim lo a → ok lim lo b → cnt (join a b) x = max (cnt a x) (cnt b x)
 | [],b,lo,x,ha,hb => by
  have:=cnt_nonneg x hb
  rw [join]
  simp only [cnt]
  omega
 | (a,c) :: r,[],lo,x,ha,hb => by
  have:=cnt_nonneg x ha
  rw [join]
  simp only [cnt] at this ⊢
  omega
 | (a,c) :: r,(b,d) :: s,lo,x,ha,hb => by
  have h1:=ha.2.1
  have h3:=hb.2.1
  rw [join]
  split
  ·rename_i e
   subst e
   simp only [cnt]
   split
   ·rfl
   ·exact join_cnt r s _ x ha.2.2.2 hb.2.2.2
  ·split
   ·rename_i e e'
    have hb' : ok lim (some a) ((b,d) :: s):=⟨by simpa using e',hb.2⟩
    have ih:=join_cnt r ((b,d) :: s) _ x ha.2.2.2 hb'
    have hax : ∀ h : a = x,cnt ((b,d) :: s) x = 0:=fun h => cnt_lo hb' (by omega)
    rw [cnt]
    by_cases h : a = x
    ·rw [if_pos h,hax h]
     simp only [cnt,if_pos h]
     omega
    ·rw [if_neg h,ih]
     simp only [cnt,if_neg h]
   ·rename_i e e'
    have ha' : ok lim (some b) ((a,c) :: r):=⟨by simp; omega,ha.2⟩
    have ih:=join_cnt ((a,c) :: r) s _ x ha' hb.2.2.2
    rw [cnt]
    by_cases h : b = x
    ·rw [if_pos h,cnt_lo ha' (by omega)]
     simp only [cnt,if_pos h]
     omega
    ·rw [if_neg h,ih]
     simp only [cnt,if_neg h]
 termination_by a b => a.length + b.length
theorem clk_ext {lim lim' : Int} : ∀ {a b : Clk} {lo lo' : Option Int},ok lim lo a → ok lim' lo' b → (∀ x,cnt a x = cnt b x) → a = b
 | [],[],_,_,_,_,_ => rfl
 | [],(b,d) :: s,_,_,_,hb,h => by
  have:=h b
  have:=hb.2.1
  simp [cnt] at *
  omega
 | (a,c) :: r,[],_,_,ha,_,h => by
  have:=h a
  have:=ha.2.1
  simp [cnt] at *
  omega
 | (a,c) :: r,(b,d) :: s,_,_,ha,hb,h => by
  have h1:=ha.2.1
  have h2:=hb.2.1
  have e : a = b:=by
   rcases Int.lt_trichotomy a b with hl | hl | hl
   ·exfalso
    have:=h a
    simp only [cnt,if_true] at this
    rw [if_neg (by omega),cnt_lo hb.2.2.2 (by omega)] at this
    omega
   ·exact hl
   ·exfalso
    have:=h b
    simp only [cnt,if_true] at this
    rw [if_neg (by omega),cnt_lo ha.2.2.2 (by omega)] at this
    omega
  subst e
  have e2 : c = d:=by simpa [cnt] using h a
  subst e2
  rw [clk_ext ha.2.2.2 hb.2.2.2 fun x => ?_]
  have:=h x
  simp only [cnt] at this
  by_cases hx : a = x
  ·subst hx
   rw [cnt_lo ha.2.2.2 (Int.le_refl _),cnt_lo hb.2.2.2 (Int.le_refl _)]
  ·simpa [hx] using this
section
variable (D : Nat → Nat → Bool)
def bef (i : Nat) : Nat → Bool
 | k => decide (i < k) && (D i k || (List.range k).attach.any fun j => D j.1 k && bef i j.1)
 termination_by k => k
 decreasing_by exact List.mem_range.1 j.2
theorem bef_iff {i k : Nat} : bef D i k = true ↔ i < k ∧ (D i k = true ∨ ∃ j,j < k ∧ D j k = true ∧ bef D i j = true):=by
 rw [bef]
 simp [List.any_eq_true]
theorem bef_lt {i k : Nat} (h : bef D i k = true) : i < k:=(bef_iff D |>.1 h).1
theorem bef_direct {i k : Nat} (h : i < k) (hd : D i k = true) : bef D i k = true:=(bef_iff D).2 ⟨h,.inl hd⟩
theorem bef_step {i j k : Nat} (h : bef D i j = true) (hj : j < k) (hd : D j k = true) : bef D i k = true :=
 (bef_iff D).2 ⟨Nat.lt_trans (bef_lt D h) hj,.inr ⟨j,hj,hd,h⟩⟩
theorem bef_trans {i j : Nat} (h : bef D i j = true) : ∀ {k : Nat},bef D j k = true → bef D i k = true:=by
 intro k
 induction k using Nat.strongRecOn with
 | _ k ih =>
  intro hk
  rcases (bef_iff D).1 hk with ⟨hlt,hd | ⟨m,hm,hd,hb⟩⟩
  ·exact bef_step D h hlt hd
  ·exact bef_step D (ih m hm hb) hm hd
def beq' (i k : Nat) : Bool:=i == k || bef D i k
theorem beq_le {i k : Nat} (h : beq' D i k = true) : i ≤ k:=by
 simp only [beq',Bool.or_eq_true,beq_iff_eq] at h
 rcases h with rfl | h
 ·exact Nat.le_refl _
 ·exact Nat.le_of_lt (bef_lt D h)
theorem beq_bef {i j k : Nat} (h : beq' D i j = true) (hk : bef D j k = true) : bef D i k = true:=by
 simp only [beq',Bool.or_eq_true,beq_iff_eq] at h
 rcases h with rfl | h
 ·exact hk
 ·exact bef_trans D h hk
end
theorem countP_le_of {p q : Nat → Bool} {n m : Nat} (h : ∀ i,i < n → p i = true → i < m ∧ q i = true) : (List.range n).countP p ≤ (List.range m).countP q:=by
 have key : ∀ n m,n ≤ m → ∀ p q : Nat → Bool,(∀ i,i < n → p i = true → q i = true) → (List.range n).countP p ≤ (List.range m).countP q:=by
  intro n m hnm p q h
  induction m with
  | zero =>
   have : n = 0:=by omega
   subst this
   simp
  | succ m ih =>
   by_cases e : n ≤ m
   ·have:=ih e
    rw [List.range_succ,List.countP_append]
    omega
   ·have : n = m + 1:=by omega
    subst this
    rw [List.range_succ,List.countP_append,List.countP_append]
    have h1 : (List.range m).countP p ≤ (List.range m).countP q:=by
     apply List.countP_mono_left
     intro i hi hp
     exact h i (by have:=List.mem_range.1 hi; omega) hp
    have h2 : [m].countP p ≤ [m].countP q:=by
     apply List.countP_mono_left
     intro i hi hp
     simp only [List.mem_singleton] at hi
     subst hi
     exact h i (by omega) hp
    omega
 have e : (List.range n).countP p = (List.range n).countP (fun i => p i && decide (i < m)):=by
  apply List.countP_congr
  intro i hi
  have hi':=List.mem_range.1 hi
  simp only [Bool.and_eq_true,decide_eq_true_eq]
  exact ⟨fun hp => ⟨hp,(h i hi' hp).1⟩,fun hp => hp.1⟩
 rw [e]
 by_cases hnm : n ≤ m
 ·exact key n m hnm _ _ fun i hi hp => by
   simp only [Bool.and_eq_true,decide_eq_true_eq] at hp
   exact (h i hi hp.1).2
 ·have hs : (List.range n).countP (fun i => p i && decide (i < m)) = (List.range m).countP (fun i => p i && decide (i < m)):=by
   have hn : n = m + (n - m):=by omega
   rw [hn,List.range_add,List.countP_append]
   have : ((List.range (n - m)).map (m + ·)).countP (fun i => p i && decide (i < m)) = 0:=by
    rw [List.countP_eq_zero]
    intro i hi
    simp only [List.mem_map,List.mem_range] at hi
    obtain ⟨j,_,rfl⟩:=hi
    simp
   omega
  rw [hs]
  apply List.countP_mono_left
  intro i hi hp
  simp only [Bool.and_eq_true,decide_eq_true_eq] at hp
  exact (h i (by have:=List.mem_range.1 hi; omega) hp.1).2
theorem countP_eq_of {p q : Nat → Bool} {n m : Nat} (h1 : ∀ i,i < n → p i = true → i < m ∧ q i = true) (h2 : ∀ i,i < m → q i = true → i < n ∧ p i = true) : (List.range n).countP p = (List.range m).countP q :=
 Nat.le_antisymm (countP_le_of h1) (countP_le_of h2)
section
variable (D : Nat → Nat → Bool) (ag : Nat → Int)
def nb (k : Nat) (x : Int) : Nat:=(List.range k).countP fun i => bef D i k && decide (ag i = x)
def refClk (k : Nat) : Clk:=(List.range k).foldl (fun c i => if bef D i k then adv c (ag i) else c) (adv [] (ag k))
theorem fold_ok (k : Nat) (p : Nat → Bool) : ∀ (n : Nat) (c : Clk) (lim : Int),0 ≤ lim → ok lim none c →
  ok (lim + n) none ((List.range n).foldl (fun c i => if p i then adv c (ag i) else c) c) ∧
  ∀ x,cnt ((List.range n).foldl (fun c i => if p i then adv c (ag i) else c) c) x = cnt c x + ((List.range n).countP fun i => p i && decide (ag i = x) : Nat)
 | 0,c,lim,_,h => ⟨by simpa using h,fun x => by simp⟩
 | n + 1,c,lim,hl,h => by
  obtain ⟨h1,h2⟩:=fold_ok k p n c lim hl h
  rw [List.range_succ,List.foldl_append]
  simp only [List.foldl_cons,List.foldl_nil]
  constructor
  ·split
   ·have:=adv_ok (lim:=lim + n) (by omega) h1 (x:=ag n) (by simp)
    rw [show lim + ((n + 1 : Nat) : Int) = lim + n + 1 by omega]
    exact this
   ·exact ok_lim (by omega) h1
  ·intro x
   rw [List.countP_append]
   cases hp : p n with
   | false => simp [h2,hp]
   | true =>
    simp only [if_true]
    rw [adv_cnt _ _ h1,h2]
    by_cases e : ag n = x
    ·simp [hp,e]; omega
    ·simp [hp,e]
theorem refClk_ok (k : Nat) : ok (k + 1) none (refClk D ag k):=by
 have:=(fold_ok ag k (fun i => bef D i k) k (adv [] (ag k)) 1 (by omega) ⟨by simp,by omega,by omega,trivial⟩).1
 exact ok_lim (by omega) this
theorem refClk_cnt (k : Nat) (x : Int) : cnt (refClk D ag k) x = (if ag k = x then 1 else 0) + (nb D ag k x : Int):=by
 have:=(fold_ok ag k (fun i => bef D i k) k (adv [] (ag k)) 1 (by omega) ⟨by simp,by omega,by omega,trivial⟩).2 x
 simp only [refClk]
 rw [this]
 simp [adv,cnt,nb]
variable (pr : Nat → List Nat)
def JoinsTo (clk : Nat → Clk) (n : Nat) : Prop:=∀ k,k < n → clk k = adv (((pr k).map clk).foldl join []) (ag k)
theorem foldl_join {clk : Nat → Clk} {lim : Int} : ∀ (l : List Nat) (c : Clk),ok lim none c → (∀ j ∈ l,ok lim none (clk j)) →
  ok lim none ((l.map clk).foldl join c) ∧ ∀ x,(∀ j ∈ l,cnt (clk j) x ≤ cnt ((l.map clk).foldl join c) x) ∧ cnt c x ≤ cnt ((l.map clk).foldl join c) x ∧
   (cnt ((l.map clk).foldl join c) x = cnt c x ∨ ∃ j ∈ l,cnt ((l.map clk).foldl join c) x = cnt (clk j) x)
 | [],c,hc,_ => ⟨hc,fun x => ⟨by simp,Int.le_refl _,.inl rfl⟩⟩
 | j :: l,c,hc,h => by
  have hj:=h j (by simp)
  obtain ⟨h1,h2⟩:=foldl_join l (join c (clk j)) (join_ok _ _ _ hc hj) fun i hi => h i (by simp [hi])
  simp only [List.map_cons,List.foldl_cons]
  refine ⟨h1,fun x => ?_⟩
  obtain ⟨a,b,d⟩:=h2 x
  rw [join_cnt _ _ _ x hc hj] at b d
  refine ⟨fun i hi => ?_,by omega,?_⟩
  ·rcases List.mem_cons.1 hi with rfl | hi
   ·omega
   ·exact a i hi
  ·rcases d with d | ⟨i,hi,d⟩
   ·by_cases hm : cnt c x ≤ cnt (clk j) x
    ·exact .inr ⟨j,by simp,by omega⟩
    ·exact .inl (by omega)
   ·exact .inr ⟨i,by simp [hi],d⟩
theorem joins_ref {clk : Nat → Clk} {n : Nat} (hclk : JoinsTo ag pr clk n)
  (h1 : ∀ k,k < n → ∀ j ∈ pr k,j < k ∧ D j k = true)
  (h2 : ∀ i k,i < k → k < n → D i k = true → ∃ j ∈ pr k,beq' D i j = true)
  (h3 : ∀ i k,i < k → k < n → ag i = ag k → D i k = true) : ∀ k,k < n → clk k = refClk D ag k:=by
 intro k
 induction k using Nat.strongRecOn with
 | _ k ih =>
  intro hk
  have hpr : ∀ j ∈ pr k,clk j = refClk D ag j:=fun j hj => ih j (h1 k hk j hj).1 (by have:=(h1 k hk j hj).1; omega)
  have hoks : ∀ j ∈ pr k,ok (k : Int) none (clk j):=fun j hj => by
   rw [hpr j hj]
   exact ok_lim (by have:=(h1 k hk j hj).1; omega) (refClk_ok D ag j)
  obtain ⟨f1,f2⟩:=foldl_join (clk:=clk) (lim:=(k : Int)) (pr k) [] trivial hoks
  have hc:=hclk k hk
  rw [hc]
  refine clk_ext (adv_ok (by omega) f1 (by simp)) (refClk_ok D ag k) fun x => ?_
  rw [adv_cnt _ _ f1,refClk_cnt]
  obtain ⟨a,b,c⟩:=f2 x
  simp only [cnt] at b c
  have hj : ∀ j ∈ pr k,cnt (clk j) x = ((List.range k).countP fun i => beq' D i j && decide (ag i = x) : Nat):=by
   intro j hj
   have hjk:=(h1 k hk j hj).1
   rw [hpr j hj,refClk_cnt]
   have : (List.range k).countP (fun i => beq' D i j && decide (ag i = x)) = (List.range (j + 1)).countP (fun i => beq' D i j && decide (ag i = x)) :=
    countP_eq_of (fun i hi hp => ⟨by
     simp only [Bool.and_eq_true] at hp
     have:=beq_le D hp.1
     omega,hp⟩) (fun i hi hp => ⟨by omega,hp⟩)
   rw [this,List.range_succ,List.countP_append]
   have e1 : (List.range j).countP (fun i => beq' D i j && decide (ag i = x)) = nb D ag j x:=by
    unfold nb
    apply List.countP_congr
    intro i hi
    have hne : ¬ i = j:=by have:=List.mem_range.1 hi; omega
    simp [beq',hne]
   rw [e1]
   by_cases e : ag j = x
   ·simp [beq',e]; omega
   ·simp [beq',e]
  have hle : ∀ j ∈ pr k,cnt (clk j) x ≤ (nb D ag k x : Int):=by
   intro j hjm
   rw [hj j hjm]
   have hjk:=h1 k hk j hjm
   have : (List.range k).countP (fun i => beq' D i j && decide (ag i = x)) ≤ nb D ag k x:=by
    unfold nb
    refine countP_le_of fun i hi hp => ⟨hi,?_⟩
    simp only [Bool.and_eq_true] at hp ⊢
    exact ⟨beq_bef D hp.1 (bef_direct D hjk.1 hjk.2),hp.2⟩
   omega
  have hge : (nb D ag k x : Int) ≤ cnt (((pr k).map clk).foldl join []) x:=by
   by_cases h0 : nb D ag k x = 0
   ·omega
   ·
    have hex : ∃ m,m < k ∧ bef D m k = true ∧ ag m = x ∧ ∀ i,i < k → bef D i k = true → ag i = x → i ≤ m:=by
     have : ∀ n,(∃ i,i < n ∧ bef D i k = true ∧ ag i = x) → ∃ m,m < n ∧ bef D m k = true ∧ ag m = x ∧ ∀ i,i < n → bef D i k = true → ag i = x → i ≤ m:=by
      intro n
      induction n with
      | zero => rintro ⟨i,hi,_⟩; omega
      | succ n ihn =>
       rintro ⟨i,hi,hb,ha⟩
       by_cases hn : bef D n k = true ∧ ag n = x
       ·exact ⟨n,by omega,hn.1,hn.2,fun i hi _ _ => by omega⟩
       ·have hin : i ≠ n:=by rintro rfl; exact hn ⟨hb,ha⟩
        obtain ⟨m,q1,q2,q3,q4⟩:=ihn ⟨i,by omega,hb,ha⟩
        refine ⟨m,by omega,q2,q3,fun i hi hb ha => ?_⟩
        by_cases e : i = n
        ·subst e; exact absurd ⟨hb,ha⟩ hn
        ·exact q4 i (by omega) hb ha
     apply this
     have hpos : 0 < nb D ag k x:=by omega
     unfold nb at hpos
     rw [List.countP_pos_iff] at hpos
     obtain ⟨i,hi,hp⟩:=hpos
     simp only [Bool.and_eq_true,decide_eq_true_eq] at hp
     exact ⟨i,List.mem_range.1 hi,hp.1,hp.2⟩
    obtain ⟨m,m1,m2,m3,m4⟩:=hex
    have hj' : ∃ j ∈ pr k,beq' D m j = true:=by
     rcases (bef_iff D).1 m2 with ⟨_,hd | ⟨q,hq,hd,hb⟩⟩
     ·exact h2 m k m1 hk hd
     ·obtain ⟨j,hjm,hb'⟩:=h2 q k hq hk hd
      refine ⟨j,hjm,?_⟩
      simp only [beq',Bool.or_eq_true,beq_iff_eq] at hb' ⊢
      rcases hb' with rfl | hb'
      ·exact .inr hb
      ·exact .inr (bef_trans D hb hb')
    obtain ⟨j,hjm,hmj⟩:=hj'
    have hjk:=h1 k hk j hjm
    have : nb D ag k x ≤ (List.range k).countP (fun i => beq' D i j && decide (ag i = x)):=by
     unfold nb
     refine countP_le_of fun i hi hp => ⟨hi,?_⟩
     simp only [Bool.and_eq_true,decide_eq_true_eq] at hp ⊢
     refine ⟨?_,hp.2⟩
     have him:=m4 i hi hp.1 hp.2
     by_cases e : i = m
     ·subst e; exact hmj
     ·have hd:=h3 i m (by omega) (by omega) (by rw [hp.2,m3])
      have hb:=bef_direct D (by omega) hd
      simp only [beq',Bool.or_eq_true,beq_iff_eq] at hmj ⊢
      rcases hmj with rfl | hmj
      ·exact .inr hb
      ·exact .inr (bef_trans D hb hmj)
    have h5:=a j hjm
    rw [hj j hjm] at h5
    omega
  have hle' : cnt (((pr k).map clk).foldl join []) x ≤ (nb D ag k x : Int):=by
   rcases c with c | ⟨j,hjm,c⟩
   ·omega
   ·rw [c]; exact hle j hjm
  omega
end
end Go.Rc

namespace Go.Rc
structure Evt where
 ag : Int
 idx : Int
 kind : Int
 obj : Int
 mux : Int
 ent : Int
 ord : Int
 rd : Int
 wr : Int
 deriving DecidableEq,Inhabited
abbrev isVal (n : Int) : Prop:=-2147483648 ≤ n ∧ n ≤ 2147483647
def ordered (k : Int) : Bool:=decide (k = 1 ∨ k = 2 ∨ k = 3 ∨ k = 5 ∨ k = 6 ∨ k = 8)
def readsK (k : Int) : Bool:=decide (k = 1 ∨ k = 8 ∨ k = 5 ∨ k = 6)
def wroteK (k : Int) : Bool:=decide (k = 2 ∨ k = 3 ∨ k = 4 ∨ k = 5)
def objOk (e : Evt) : Bool :=
 if e.kind = 7 then decide (e.obj = 0)
 else if e.kind = 9 ∨ e.kind = 10 ∨ e.kind = 11 then decide (0 ≤ e.obj ∧ e.obj < 4)
 else if e.kind = 12 ∨ e.kind = 13 ∨ e.kind = 14 ∨ e.kind = 15 then decide (0 ≤ e.obj ∧ e.obj < 4)
 else if e.kind = 16 ∨ e.kind = 17 then decide (0 ≤ e.obj)
 else decide (0 ≤ e.obj ∧ e.obj < 8)
def resOk (e : Evt) : Bool :=
 if e.kind = 11 ∨ e.kind = 14 then decide (0 ≤ e.rd ∧ e.rd < 2)
 else if e.kind = 15 then decide (0 ≤ e.rd)
 else decide (isVal e.rd) && (readsK e.kind || decide (e.rd = 0))
def entOk (e : Evt) : Bool :=
 if e.kind = 1 ∨ e.kind = 8 then decide (-1 ≤ e.ent)
 else if e.kind = 3 ∨ e.kind = 4 then decide (0 ≤ e.ent)
 else decide (e.ent = -1)
def vld (e : Evt) : Bool :=
 decide (1 ≤ e.kind) && decide (e.kind ≤ 17) && decide (e.ag < 0 ↔ e.kind = 4) && decide (0 ≤ e.idx) && objOk e && resOk e && entOk e &&
 decide (0 ≤ e.ord) && decide (e.ord ≤ 2) && (ordered e.kind || decide (e.ord = 0)) && decide (isVal e.wr) && (wroteK e.kind || decide (e.wr = 0)) &&
 (if e.kind = 12 then decide (0 ≤ e.mux ∧ e.mux < 4) else decide (e.mux = -1))
theorem vld_facts {e : Evt} (h : vld e = true) : (1 ≤ e.kind ∧ e.kind ≤ 17) ∧ (e.ag < 0 ↔ e.kind = 4) ∧ 0 ≤ e.obj ∧ (e.kind = 12 → 0 ≤ e.mux) ∧ (e.kind ≠ 12 → e.mux = -1):=by
 simp only [vld,Bool.and_eq_true,decide_eq_true_eq] at h
 obtain ⟨⟨⟨⟨⟨⟨⟨⟨⟨⟨⟨⟨h1,h2⟩,h3⟩,h4⟩,h5⟩,_⟩,_⟩,_⟩,_⟩,_⟩,_⟩,_⟩,h6⟩:=h
 refine ⟨⟨h1,h2⟩,h3,?_,fun e => ?_,fun e => ?_⟩
 ·unfold objOk at h5
  split at h5
  ·simp at h5; omega
  ·split at h5
   ·simp at h5; omega
   ·split at h5
    ·simp at h5; omega
    ·split at h5 <;> (simp at h5; omega)
 ·rw [if_pos e] at h6; simp at h6; omega
 ·rw [if_neg e] at h6; simpa using h6
def lst (p : Nat → Bool) : Nat → Option Nat
 | 0 => none
 | n + 1 => if p n then some n else lst p n
theorem lst_spec {p : Nat → Bool} : ∀ {n j : Nat},lst p n = some j → j < n ∧ p j = true ∧ ∀ i,j < i → i < n → p i = false
 | 0,j,h => by simp [lst] at h
 | n + 1,j,h => by
  simp only [lst] at h
  split at h
  ·cases h
   exact ⟨by omega,by assumption,fun i h1 h2 => by omega⟩
  ·rename_i hp
   obtain ⟨a,b,c⟩:=lst_spec h
   refine ⟨by omega,b,fun i h1 h2 => ?_⟩
   by_cases e : i = n
   ·subst e; simpa using hp
   ·exact c i h1 (by omega)
theorem lst_none {p : Nat → Bool} : ∀ {n : Nat},lst p n = none → ∀ i,i < n → p i = false
 | 0,_,i,hi => by omega
 | n + 1,h,i,hi => by
  simp only [lst] at h
  split at h
  ·cases h
  ·rename_i hp
   by_cases e : i = n
   ·subst e; simpa using hp
   ·exact lst_none h i (by omega)
theorem lst_some {p : Nat → Bool} {n i : Nat} (hi : i < n) (hp : p i = true) : ∃ j,lst p n = some j ∧ i ≤ j ∧ j < n ∧ p j = true:=by
 cases h : lst p n with
 | none => rw [lst_none h i hi] at hp; cases hp
 | some j =>
  obtain ⟨a,b,c⟩:=lst_spec h
  refine ⟨j,rfl,?_,a,b⟩
  by_cases e : i ≤ j
  ·exact e
  ·rw [c i (by omega) hi] at hp; cases hp
def thr (a : Int) : Int:=if a < 0 then -(a + 1) else a
def flu (t : Int) : Int:=if t < 0 then 0 else -t - 1
def Evt.reads (e : Evt) : Bool:=readsK e.kind
def Evt.writes (e : Evt) : Bool:=decide (e.kind = 2 ∨ e.kind = 5 ∨ e.kind = 4)
def Evt.puts (e : Evt) : Bool:=decide (e.kind = 2 ∨ e.kind = 3 ∨ e.kind = 5)
section
variable (e : Nat → Evt)
def isBuf (a t : Int) (i : Nat) : Bool:=(e i).kind == 3 && (e i).ag == a && (e i).ent == t
def bufd (n : Nat) (a t none : Int) : Int:=match lst (isBuf e a t) n with
 | some i => i
 | Option.none => none
def isWr (o : Int) (i : Nat) : Bool:=(e i).writes && (e i).obj == o
def src (i : Nat) : Int :=
 if (e i).reads = true then
  if 0 ≤ (e i).ent then bufd e i (e i).ag (e i).ent (-1)
  else match lst (isWr e (e i).obj) i with
   | none => -1
   | some w => if (e w).kind = 4 then bufd e w (thr (e w).ag) (e w).ent w else w
 else -2
theorem bufd_lt {n : Nat} {a t d : Int} (hd : d < n) : bufd e n a t d < n:=by
 unfold bufd
 split
 ·rename_i i h
  have:=(lst_spec h).1
  omega
 ·exact hd
theorem src_lt (i : Nat) : src e i < i:=by
 unfold src
 split
 ·split
  ·exact bufd_lt e (by omega)
  ·split
   ·omega
   ·rename_i w h
    have hw:=(lst_spec h).1
    split
    ·unfold bufd
     split
     ·rename_i b hb
      have:=(lst_spec hb).1
      omega
     ·omega
    ·omega
 ·omega
theorem src_ge (i : Nat) : -2 ≤ src e i:=by
 unfold src
 split
 ·split
  ·unfold bufd; split <;> omega
  ·split
   ·omega
   ·split
    ·unfold bufd; split <;> omega
    ·omega
 ·omega
def chain : Nat → Int → List Nat
 | 0,_ => []
 | f + 1,s => if s < 0 then [] else s.toNat :: if (e s.toNat).kind = 5 then chain f (src e s.toNat) else []
theorem chain_lt : ∀ {f : Nat} {s : Int} {j : Nat},j ∈ chain e f s → (j : Int) ≤ s
 | 0,s,j,h => by simp [chain] at h
 | f + 1,s,j,h => by
  simp only [chain] at h
  split at h
  ·simp at h
  ·rcases List.mem_cons.1 h with rfl | h
   ·omega
   ·split at h
    ·have h1:=chain_lt h
     have h2:=src_lt e s.toNat
     omega
    ·simp at h
def acq (x : Evt) : Bool:=x.reads && decide (x.ord = 2)
def rel (x : Evt) : Bool:=x.puts && decide (x.ord = 2)
def rels (k : Nat) : List Nat:=if acq (e k) then (chain e k (src e k)).filter fun i => rel (e i) else []
def withR (i k : Nat) : Bool:=rel (e i) && acq (e k) && (chain e k (src e k)).contains i
def mutexOf (x : Evt) : Int:=if x.kind = 9 ∨ x.kind = 10 ∨ x.kind = 11 then x.obj else x.mux
def condOf (x : Evt) : Int:=if x.kind = 12 ∨ x.kind = 13 ∨ x.kind = 14 ∨ x.kind = 15 then x.obj else -1
def direct (i k : Nat) : Bool :=
 decide ((e i).ag = (e k).ag) || (decide (0 ≤ mutexOf (e i)) && decide (mutexOf (e i) = mutexOf (e k))) || (decide (0 ≤ condOf (e i)) && decide (condOf (e i) = condOf (e k))) ||
 (decide ((e i).kind = 16) && (decide ((e i).obj = (e k).ag) || (decide ((e k).kind = 17) && decide ((e i).obj = (e k).obj)))) || (decide ((e k).kind = 17) && decide ((e k).obj = (e i).ag)) ||
 (decide ((e i).kind = 3) && decide ((e k).kind = 4) && decide ((e k).ag = flu (e i).ag) && decide ((e i).ent = (e k).ent)) ||
 withR e i k
def objs (x : Evt) : List (Int × Int) :=
 if x.kind = 9 ∨ x.kind = 10 ∨ x.kind = 11 then [(2,x.obj)]
 else if x.kind = 12 then [(2,x.mux),(3,x.obj)]
 else if x.kind = 13 ∨ x.kind = 14 ∨ x.kind = 15 then [(3,x.obj)]
 else []
def lastAg (a : Int) (k : Nat) : Option Nat:=lst (fun i => decide ((e i).ag = a)) k
def lastOb (o : Int × Int) (k : Nat) : Option Nat:=lst (fun i => (objs (e i)).contains o) k
def spawned (a : Int) (k : Nat) : List Nat:=(List.range k).filter fun i => decide ((e i).kind = 16) && decide ((e i).obj = a)
def buffs (x : Evt) (k : Nat) : List Nat:=(List.range k).filter fun i => isBuf e (thr x.ag) x.ent i
def special (k : Nat) : List Nat :=
 if (e k).kind = 17 then (lastAg e (e k).obj k).toList ++ spawned e (e k).obj k
 else if (e k).kind = 4 then buffs e (e k) k
 else []
def preds (k : Nat) : List Nat :=
 (lastAg e (e k).ag k).toList ++ ((objs (e k)).flatMap fun o => (lastOb e o k).toList) ++ spawned e (e k).ag k ++ special e k ++ rels e k
variable {e}
theorem objs_mutex {x : Evt} (hv : vld x = true) {m : Int} : (2,m) ∈ objs x ↔ mutexOf x = m ∧ 0 ≤ m:=by
 obtain ⟨⟨h1,h2⟩,h3,h4,h5,h6⟩:=vld_facts hv
 unfold objs mutexOf
 split
 ·simp; omega
 ·split
  ·rename_i h
   have:=h5 h
   simp; omega
  ·rename_i h
   have:=h6 h
   split
   ·simp; omega
   ·simp; omega
theorem objs_cond {x : Evt} (hv : vld x = true) {m : Int} : (3,m) ∈ objs x ↔ condOf x = m ∧ 0 ≤ m:=by
 obtain ⟨⟨h1,h2⟩,h3,h4,h5,h6⟩:=vld_facts hv
 unfold objs condOf
 split
 ·rw [if_neg (by omega)]; simp; omega
 ·split
  ·rw [if_pos (by omega)]; simp; omega
  ·split
   ·rw [if_pos (by omega)]; simp; omega
   ·rw [if_neg (by omega)]; simp; omega
theorem objs_two {x : Evt} {o : Int × Int} (h : o ∈ objs x) : o.1 = 2 ∨ o.1 = 3:=by
 unfold objs at h
 split at h
 ·simp at h; subst h; exact .inl rfl
 ·split at h
  ·simp at h; rcases h with rfl | rfl
   ·exact .inl rfl
   ·exact .inr rfl
  ·split at h
   ·simp at h; subst h; exact .inr rfl
   ·simp at h
theorem direct_obj {i k : Nat} (hi : vld (e i) = true) (hk : vld (e k) = true) {o : Int × Int} (h1 : o ∈ objs (e i)) (h2 : o ∈ objs (e k)) : direct e i k = true:=by
 obtain ⟨a,m⟩:=o
 unfold direct
 rcases objs_two h1 with rfl | rfl
 ·rw [objs_mutex hi] at h1
  rw [objs_mutex hk] at h2
  simp [h1.1,h2.1,h1.2]
 ·rw [objs_cond hi] at h1
  rw [objs_cond hk] at h2
  simp [h1.1,h2.1,h1.2]
theorem direct_ag {i k : Nat} (h : (e i).ag = (e k).ag) : direct e i k = true:=by simp [direct,h]
theorem preds_ok {n : Nat} (hv : ∀ i,i < n → vld (e i) = true) {k : Nat} (hk : k < n) {j : Nat} (hj : j ∈ preds e k) : j < k ∧ direct e j k = true:=by
 simp only [preds,List.mem_append] at hj
 rcases hj with (((hj | hj) | hj) | hj) | hj
 ·simp only [Option.mem_toList,lastAg] at hj
  obtain ⟨h1,h2,_⟩:=lst_spec hj
  exact ⟨h1,direct_ag (by simpa using h2)⟩
 ·simp only [List.mem_flatMap,Option.mem_toList,lastOb] at hj
  obtain ⟨o,ho,hj⟩:=hj
  obtain ⟨h1,h2,_⟩:=lst_spec hj
  exact ⟨h1,direct_obj (hv j (by omega)) (hv k hk) (by simpa using h2) ho⟩
 ·simp only [spawned,List.mem_filter,List.mem_range,Bool.and_eq_true,decide_eq_true_eq] at hj
  refine ⟨hj.1,?_⟩
  simp [direct,hj.2.1,hj.2.2]
 ·unfold special at hj
  split at hj
  ·rename_i h17
   rcases List.mem_append.1 hj with hj | hj
   ·simp only [Option.mem_toList,lastAg] at hj
    obtain ⟨h1,h2,_⟩:=lst_spec hj
    refine ⟨h1,?_⟩
    simp only [decide_eq_true_eq] at h2
    simp [direct,h17,h2]
   ·simp only [spawned,List.mem_filter,List.mem_range,Bool.and_eq_true,decide_eq_true_eq] at hj
    refine ⟨hj.1,?_⟩
    simp [direct,hj.2.1,hj.2.2,h17]
  ·split at hj
   ·rename_i h4
    simp only [buffs,List.mem_filter,List.mem_range,isBuf,Bool.and_eq_true,beq_iff_eq] at hj
    obtain ⟨h1,⟨h2,h3⟩,h5⟩:=hj
    refine ⟨h1,?_⟩
    have hj':=vld_facts (hv j (by omega))
    have hk':=vld_facts (hv k hk)
    have hneg : (e k).ag < 0:=hk'.2.1.2 h4
    have hf : (e k).ag = flu (e j).ag:=by
     have : 0 ≤ (e j).ag:=by
      have:=hj'.2.1
      omega
     unfold flu
     rw [h3] at this ⊢
     unfold thr at this ⊢
     rw [if_pos hneg] at this ⊢
     rw [if_neg (by omega)]
     omega
    simp [direct,h2,h4,← hf,h5]
   ·simp at hj
 ·unfold rels at hj
  split at hj
  ·rename_i ha
   obtain ⟨h1,h2⟩:=List.mem_filter.1 hj
   have h3:=chain_lt e h1
   have h4:=src_lt e k
   refine ⟨by omega,?_⟩
   have : withR e j k = true:=by
    unfold withR
    simp only [Bool.and_eq_true]
    exact ⟨⟨h2,ha⟩,by simpa using h1⟩
   simp [direct,this]
  ·simp at hj
theorem last_step {p : Nat → Bool} {i k : Nat} (hi : i < k) (hp : p i = true) (hd : ∀ j,i < j → j < k → p j = true → direct e i j = true) : ∃ j,lst p k = some j ∧ beq' (direct e) i j = true:=by
 obtain ⟨j,h1,h2,h3,h4⟩:=lst_some hi hp
 refine ⟨j,h1,?_⟩
 simp only [beq',Bool.or_eq_true,beq_iff_eq]
 by_cases h : i = j
 ·exact .inl h
 ·exact .inr (bef_direct _ (by omega) (hd j (by omega) h3 h4))
theorem preds_all {n : Nat} (hv : ∀ i,i < n → vld (e i) = true) {i k : Nat} (hik : i < k) (hk : k < n) (hd : direct e i k = true) : ∃ j ∈ preds e k,beq' (direct e) i j = true:=by
 have self : beq' (direct e) i i = true:=by simp [beq']
 have hobj : ∀ o,o ∈ objs (e i) → o ∈ objs (e k) → ∃ j ∈ preds e k,beq' (direct e) i j = true:=by
  intro o h1 h2
  obtain ⟨j,hj,hb⟩:=last_step (e:=e) (p:=fun i => (objs (e i)).contains o) hik (by simpa using h1) fun j hij hjk hp => direct_obj (hv i (by omega)) (hv j (by omega)) h1 (by simpa using hp)
  refine ⟨j,?_,hb⟩
  simp only [preds,List.mem_append,List.mem_flatMap,Option.mem_toList,lastOb]
  exact .inl (.inl (.inl (.inr ⟨o,h2,hj⟩)))
 have hag : ∀ a,(e i).ag = a → ∃ j,lastAg e a k = some j ∧ beq' (direct e) i j = true:=by
  intro a ha
  exact last_step (e:=e) (p:=fun i => decide ((e i).ag = a)) hik (by simpa using ha) fun j hij hjk hp => direct_ag (by
   rw [ha]; exact (of_decide_eq_true hp).symm)
 unfold direct at hd
 simp only [Bool.or_eq_true,Bool.and_eq_true,decide_eq_true_eq] at hd
 rcases hd with (((((hd | hd) | hd) | hd) | hd) | hd) | hd
 ·obtain ⟨j,h1,h2⟩:=hag _ hd
  refine ⟨j,?_,h2⟩
  simp only [preds,List.mem_append,Option.mem_toList]
  exact .inl (.inl (.inl (.inl h1)))
 ·exact hobj (2,mutexOf (e i)) ((objs_mutex (hv i (by omega))).2 ⟨rfl,hd.1⟩) ((objs_mutex (hv k hk)).2 ⟨hd.2.symm,hd.1⟩)
 ·exact hobj (3,condOf (e i)) ((objs_cond (hv i (by omega))).2 ⟨rfl,hd.1⟩) ((objs_cond (hv k hk)).2 ⟨hd.2.symm,hd.1⟩)
 ·obtain ⟨h16,hd | ⟨h17,hd⟩⟩:=hd
  ·refine ⟨i,?_,self⟩
   simp only [preds,List.mem_append]
   refine .inl (.inl (.inr ?_))
   simp [spawned,hik,h16,hd]
  ·refine ⟨i,?_,self⟩
   simp only [preds,List.mem_append]
   refine .inl (.inr ?_)
   simp [special,h17,spawned,hik,h16,hd]
 ·obtain ⟨h17,hd⟩:=hd
  obtain ⟨j,h1,h2⟩:=hag _ hd.symm
  refine ⟨j,?_,h2⟩
  simp only [preds,List.mem_append]
  refine .inl (.inr ?_)
  simp [special,h17,h1]
 ·obtain ⟨⟨⟨h3,h4⟩,h5⟩,h6⟩:=hd
  refine ⟨i,?_,self⟩
  simp only [preds,List.mem_append]
  refine .inl (.inr ?_)
  have h17 : ¬ (e k).kind = 17:=by omega
  have hi':=vld_facts (hv i (by omega))
  have : (e i).ag = thr (e k).ag:=by
   have h0 : 0 ≤ (e i).ag:=by
    have:=hi'.2.1
    omega
   have h7 : flu (e i).ag = -(e i).ag - 1:=if_neg (by omega)
   rw [h5,h7]
   unfold thr
   rw [if_pos (by omega)]
   omega
  simp [special,h4,buffs,hik,isBuf,h3,this,h6]
 ·unfold withR at hd
  simp only [Bool.and_eq_true] at hd
  refine ⟨i,?_,self⟩
  simp only [preds,List.mem_append]
  refine .inr ?_
  unfold rels
  rw [if_pos hd.1.2]
  exact List.mem_filter.2 ⟨by simpa using hd.2,hd.1.1⟩
theorem clocks_eq {n : Nat} (hv : ∀ i,i < n → vld (e i) = true) {clk : Nat → Clk} (h : JoinsTo (fun i => (e i).ag) (preds e) clk n) : ∀ k,k < n → clk k = refClk (direct e) (fun i => (e i).ag) k :=
 joins_ref _ _ _ h (fun _ hk _ hj => preds_ok hv hk hj) (fun _ _ hik hk hd => preds_all hv hik hk hd) fun _ _ _ _ ha => direct_ag ha
end
end Go.Rc

set_option maxRecDepth 10000
namespace Go.Am.W
open Go.Proofs Go.Rc
abbrev Nn (n : Int) : Dat:=.int .i64 n
def _root_.Go.Rc.Evt.cells (e : Evt) : List Dat:=[Nn e.ag,Nn e.idx,Nn e.kind,Nn e.obj,Nn e.mux,Nn e.ent,Nn e.ord,Nn e.rd,Nn e.wr]
abbrev _root_.Go.Rc.Evt.dat (e : Evt) : Dat:=.agg e.cells
theorem run119 (a : Int) : KR 119 [.dat (Nn a)] [] = some (.dat (.bool (decide (a < 0))),[]):=by
 refine callT_ev (fn:=fn119) rfl rfl ?_
 simp [runFun_eq]
theorem run120 (a : Int) : KR 120 [.dat (Nn a)] [] = some (.dat (.bool (decide (a < 0))),[]):=by
 refine callT_ev (fn:=fn120) rfl rfl ?_
 simp [runFun_eq]
theorem run127 (a b : Int) : KR 127 [.dat (Nn a),.dat (Nn b)] [] = some (.dat (.bool (decide (0 ≤ a ∧ a < b))),[]):=by
 refine callT_ev (fn:=fn127) rfl rfl ?_
 by_cases h : 0 ≤ a <;> simp [runFun_eq,h]
theorem run125 (a : Int) : KR 125 [.dat (Nn a)] [] = some (.dat (.bool (decide (isVal a))),[]):=by
 refine callT_ev (fn:=fn125) rfl rfl ?_
 by_cases h : -2147483648 ≤ a <;> simp [runFun_eq,h,isVal]
end Go.Am.W

set_option maxRecDepth 100000
namespace Go.Am.W
open Go.Proofs Go.Rc
def VP (e : Evt) : Prop :=
 1 ≤ e.kind ∧ e.kind ≤ 17 ∧ (e.ag < 0 ↔ e.kind = 4) ∧ 0 ≤ e.idx ∧
 0 ≤ e.obj ∧ (e.kind = 7 → e.obj = 0) ∧ (9 ≤ e.kind ∧ e.kind ≤ 15 → e.obj < 4) ∧ (e.kind ≤ 6 ∨ e.kind = 8 → e.obj < 8) ∧
 (e.kind = 11 ∨ e.kind = 14 → 0 ≤ e.rd ∧ e.rd < 2) ∧ (e.kind = 15 → 0 ≤ e.rd) ∧ (e.kind = 1 ∨ e.kind = 8 ∨ e.kind = 5 ∨ e.kind = 6 → -2147483648 ≤ e.rd ∧ e.rd ≤ 2147483647) ∧
 (¬ (e.kind = 11 ∨ e.kind = 14 ∨ e.kind = 15 ∨ e.kind = 1 ∨ e.kind = 8 ∨ e.kind = 5 ∨ e.kind = 6) → e.rd = 0) ∧
 (e.kind = 1 ∨ e.kind = 8 → -1 ≤ e.ent) ∧ (e.kind = 3 ∨ e.kind = 4 → 0 ≤ e.ent) ∧ (¬ (e.kind = 1 ∨ e.kind = 8 ∨ e.kind = 3 ∨ e.kind = 4) → e.ent = -1) ∧
 0 ≤ e.ord ∧ e.ord ≤ 2 ∧ (¬ (e.kind = 1 ∨ e.kind = 2 ∨ e.kind = 3 ∨ e.kind = 5 ∨ e.kind = 6 ∨ e.kind = 8) → e.ord = 0) ∧
 -2147483648 ≤ e.wr ∧ e.wr ≤ 2147483647 ∧ (¬ (e.kind = 2 ∨ e.kind = 3 ∨ e.kind = 4 ∨ e.kind = 5) → e.wr = 0) ∧
 (e.kind = 12 → 0 ≤ e.mux ∧ e.mux < 4) ∧ (e.kind ≠ 12 → e.mux = -1)
theorem vld_iff (e : Evt) : vld e = true ↔ VP e:=by
 obtain ⟨ag,idx,kind,obj,mux,ent,ord,rd,wr⟩:=e
 by_cases h : 1 ≤ kind ∧ kind ≤ 17
 ·have : kind = 1 ∨ kind = 2 ∨ kind = 3 ∨ kind = 4 ∨ kind = 5 ∨ kind = 6 ∨ kind = 7 ∨ kind = 8 ∨ kind = 9 ∨ kind = 10 ∨ kind = 11 ∨ kind = 12 ∨ kind = 13 ∨ kind = 14 ∨ kind = 15 ∨ kind = 16 ∨ kind = 17:=by omega
  rcases this with rfl | rfl | rfl | rfl | rfl | rfl | rfl | rfl | rfl | rfl | rfl | rfl | rfl | rfl | rfl | rfl | rfl <;>
  simp [vld,VP,objOk,resOk,entOk,ordered,readsK,wroteK,isVal] <;> omega
 ·simp only [vld,VP,Bool.and_eq_true,decide_eq_true_eq]
  constructor
  ·rintro ⟨⟨⟨⟨⟨⟨⟨⟨⟨⟨⟨⟨h1,h2⟩,_⟩,_⟩,_⟩,_⟩,_⟩,_⟩,_⟩,_⟩,_⟩,_⟩,_⟩
   exact absurd ⟨h1,h2⟩ h
  ·rintro ⟨h1,h2,_⟩
   exact absurd ⟨h1,h2⟩ h
theorem vf {e : Evt} (h : ¬ VP e) : vld e = false:=Bool.eq_false_iff.2 fun hv => h ((vld_iff e).1 hv)
theorem vt {e : Evt} (h : VP e) : vld e = true:=(vld_iff e).2 h
theorem glob0_len : glob0.length = 136:=rfl
theorem row1 : List.take 8 glob0 = [.int .i64 7,.bool true,.int .i64 (-2147483648),.int .i64 2147483647,.bool false,.int .i64 (-1),.int .i64 1,.bool false]:=rfl
theorem row2 : List.take 8 (List.drop 8 glob0) = [.int .i64 7,.bool true,.int .i64 0,.int .i64 0,.bool true,.int .i64 (-2),.int .i64 1,.bool true]:=rfl
theorem row3 : List.take 8 (List.drop 16 glob0) = [.int .i64 7,.bool true,.int .i64 0,.int .i64 0,.bool true,.int .i64 0,.int .i64 4,.bool true]:=rfl
theorem row4 : List.take 8 (List.drop 24 glob0) = [.int .i64 7,.bool false,.int .i64 0,.int .i64 0,.bool true,.int .i64 0,.int .i64 1,.bool true]:=rfl
theorem row5 : List.take 8 (List.drop 32 glob0) = [.int .i64 7,.bool true,.int .i64 (-2147483648),.int .i64 2147483647,.bool true,.int .i64 (-2),.int .i64 1,.bool true]:=rfl
theorem row6 : List.take 8 (List.drop 40 glob0) = [.int .i64 7,.bool true,.int .i64 (-2147483648),.int .i64 2147483647,.bool false,.int .i64 (-2),.int .i64 1,.bool false]:=rfl
theorem row7 : List.take 8 (List.drop 48 glob0) = [.int .i64 0,.bool false,.int .i64 0,.int .i64 0,.bool false,.int .i64 (-2),.int .i64 0,.bool false]:=rfl
theorem row8 : List.take 8 (List.drop 56 glob0) = [.int .i64 7,.bool true,.int .i64 (-2147483648),.int .i64 2147483647,.bool false,.int .i64 (-1),.int .i64 1,.bool false]:=rfl
theorem row9 : List.take 8 (List.drop 64 glob0) = [.int .i64 3,.bool false,.int .i64 0,.int .i64 0,.bool false,.int .i64 (-2),.int .i64 2,.bool true]:=rfl
theorem row10 : List.take 8 (List.drop 72 glob0) = [.int .i64 3,.bool false,.int .i64 0,.int .i64 0,.bool false,.int .i64 (-2),.int .i64 2,.bool true]:=rfl
theorem row11 : List.take 8 (List.drop 80 glob0) = [.int .i64 3,.bool false,.int .i64 0,.int .i64 1,.bool false,.int .i64 (-2),.int .i64 2,.bool true]:=rfl
theorem row12 : List.take 8 (List.drop 88 glob0) = [.int .i64 3,.bool false,.int .i64 0,.int .i64 0,.bool false,.int .i64 (-2),.int .i64 3,.bool true]:=rfl
theorem row13 : List.take 8 (List.drop 96 glob0) = [.int .i64 3,.bool false,.int .i64 0,.int .i64 0,.bool false,.int .i64 (-2),.int .i64 3,.bool true]:=rfl
theorem row14 : List.take 8 (List.drop 104 glob0) = [.int .i64 3,.bool false,.int .i64 0,.int .i64 1,.bool false,.int .i64 (-2),.int .i64 3,.bool true]:=rfl
theorem row15 : List.take 8 (List.drop 112 glob0) = [.int .i64 3,.bool false,.int .i64 0,.int .i64 (-1),.bool false,.int .i64 (-2),.int .i64 3,.bool true]:=rfl
theorem row16 : List.take 8 (List.drop 120 glob0) = [.int .i64 (-1),.bool false,.int .i64 0,.int .i64 0,.bool false,.int .i64 (-2),.int .i64 0,.bool false]:=rfl
theorem row17 : List.take 8 (List.drop 128 glob0) = [.int .i64 (-1),.bool false,.int .i64 0,.int .i64 0,.bool false,.int .i64 (-2),.int .i64 0,.bool false]:=rfl
end Go.Am.W
