/- Parts of the proofs of the statement, joined and made short: WE WI WJ WK WN WN2. -/
import Derived.Test.YtgaeajfoiigbkaaGreatDoorP20
import Derived.Test.YtgaeajfoiigbkaaGreatDoorP21
import Derived.Test.YtgaeajfoiigbkaaGreatDoorP10
set_option linter.unusedVariables false
set_option linter.unusedSimpArgs false
set_option linter.unusedSectionVars false
set_option maxRecDepth 10000
set_option maxHeartbeats 2000000
namespace Go.Am.W
open Go.Proofs Go.Rc
def ED (e : Evt) : Dat:=e.dat
theorem ED_mk (ag idx kind obj mux ent ord rd wr : Int) : ED ⟨ag,idx,kind,obj,mux,ent,ord,rd,wr⟩ = .agg [Nn ag,Nn idx,Nn kind,Nn obj,Nn mux,Nn ent,Nn ord,Nn rd,Nn wr]:=rfl
theorem fine_loop : ∀ (r pre : List Evt) (s : St),pre.length + r.length < 100000000 →
  hd [0,3] [] s = some ⟨[(0,.dat (.sl ((pre ++ r).map ED))),(3,.dat (.int .i64 pre.length))],[]⟩ →
  Ev (loopLim (exec KR l42_0) s) fun p => if r.all vld = true then p.1 = .exit 0 ∧ hd [] [] p.2 = some ⟨[],[]⟩ else p.1 = .ret ∧ hd [2] [] p.2 = some ⟨[(2,.dat (.bool false))],[]⟩
 | [],pre,s,hl,hs => by
  apply ev_loop
  simp [hs]
 | x :: r,pre,s,hl,hs => by
  have ix : Ix pre.length:=by unfold Ix; simp at hl; omega
  obtain ⟨ag,idx,kind,obj,mux,ent,ord,rd,wr⟩:=x
  apply ev_loop
  cases hv : vld ⟨ag,idx,kind,obj,mux,ent,ord,rd,wr⟩
  ·simp [hs,ix,ED_mk,run77',hv]
  ·generalize hQ : (fun p : AEx × St => if (⟨ag,idx,kind,obj,mux,ent,ord,rd,wr⟩ :: r : List Evt).all vld = true then p.1 = .exit 0 ∧ hd [] [] p.2 = some ⟨[],[]⟩ else p.1 = .ret ∧ hd [2] [] p.2 = some ⟨[(2,.dat (.bool false))],[]⟩) = Q
   simp [hs,ix,ED_mk,run77',hv]
   refine Ev.mono (fine_loop r (pre ++ [⟨ag,idx,kind,obj,mux,ent,ord,rd,wr⟩]) _ (by simp; simp at hl; omega) (by simp [hs,ix,ED_mk,run77',hv])) ?_
   subst hQ
   intro p hq
   simpa [hv] using hq
def okEvs (es : List Evt) : Bool:=decide (es.length ≤ 512) && es.all vld
theorem run42 (es : List Evt) (hl : es.length < 1000000) : KR 42 [.dat (.sl (es.map ED))] [] = some (.dat (.bool (okEvs es)),[]):=by
 refine callT_ev (fn:=fn42) rfl rfl ?_
 unfold okEvs
 by_cases h : (512 : Int) < es.length
 ·have h' : ¬ es.length ≤ 512:=by omega
  simp [runFun_eq,h,h']
 ·have h' : es.length ≤ 512:=by omega
  simp [runFun_eq,h,h']
  simp only [ev_bnd_iff]
  refine (fine_loop es [] _ (by simp; omega) (by simp [h])).mono ?_
  rintro ⟨x,s⟩ hq
  by_cases e : es.all vld = true
  ·rw [if_pos e] at hq
   obtain ⟨rfl,hs⟩:=hq
   simp [hs,e]
  ·rw [if_neg e] at hq
   obtain ⟨rfl,hs⟩:=hq
   simp [endK_hd (res:=[.t 2]) (live:=[2]) (by simp [AR.slot]) hs,e]
theorem index_loop : ∀ (r pre : List Evt) (s : St),pre.length + r.length < 100000000 →
  hd [0,1,7,8] [] s = some ⟨[(0,.dat (.sl ((pre ++ r).map ED))),(1,.fn 71 []),(7,.dat (.int .i64 (pre ++ r).length)),(8,.dat (.int .i64 pre.length))],[]⟩ →
  Ev (loopLim (exec KR l118_0) s) fun p => if r.all vld = true then p.1 = .exit 0 ∧ hd [] [] p.2 = some ⟨[],[]⟩ else p.1 = .ret ∧ ∃ n : Nat,hd [4] [] p.2 = some ⟨[(4,.dat (.int .i64 n))],[]⟩
 | [],pre,s,hl,hs => by
  apply ev_loop
  simp [hs]
 | x :: r,pre,s,hl,hs => by
  have ix : Ix pre.length:=by unfold Ix; simp at hl; omega
  obtain ⟨ag,idx,kind,obj,mux,ent,ord,rd,wr⟩:=x
  apply ev_loop
  cases hv : vld ⟨ag,idx,kind,obj,mux,ent,ord,rd,wr⟩
  ·simp [hs,ix,ED_mk,run71',hv,YID]
  ·generalize hQ : (fun p : AEx × St => if (⟨ag,idx,kind,obj,mux,ent,ord,rd,wr⟩ :: r : List Evt).all vld = true then p.1 = .exit 0 ∧ hd [] [] p.2 = some ⟨[],[]⟩ else p.1 = .ret ∧ ∃ n : Nat,hd [4] [] p.2 = some ⟨[(4,.dat (.int .i64 n))],[]⟩) = Q
   simp [hs,ix,ED_mk,run71',hv,YID]
   refine Ev.mono (index_loop r (pre ++ [⟨ag,idx,kind,obj,mux,ent,ord,rd,wr⟩]) _ (by simp; simp at hl; omega) (by simp [hs,ix,ED_mk,run71',hv,YID])) ?_
   subst hQ
   intro p hq
   simpa [hv] using hq
theorem run118 (es : List Evt) (hl : es.length < 1000000) : ∃ n : Int,(n < 0 ↔ es.all vld = true) ∧ KR 118 [.dat (.sl (es.map ED)),.fn 71 []] [] = some (.dat (.int .i64 n),[]):=by
 by_cases e : es.all vld = true
 ·refine ⟨-1,by simp [e],?_⟩
  refine callT_ev (fn:=fn118) rfl rfl ?_
  simp [runFun_eq]
  simp only [ev_bnd_iff]
  refine (index_loop es [] _ (by simp; omega) (by simp)).mono ?_
  rintro ⟨x,s⟩ hq
  rw [if_pos e] at hq
  obtain ⟨rfl,hs⟩:=hq
  simp [hs,e]
 ·have key : Ev (runFun KR fn118 [.dat (.sl (es.map ED)),.fn 71 []] []) fun r => ∃ n : Nat,r = (.dat (.int .i64 n),[]):=by
   simp [runFun_eq]
   simp only [ev_bnd_iff]
   refine (index_loop es [] _ (by simp; omega) (by simp)).mono ?_
   rintro ⟨x,s⟩ hq
   rw [if_neg e] at hq
   obtain ⟨rfl,n,hs⟩:=hq
   simp [endK_hd (res:=[.t 4]) (live:=[4]) (by simp [AR.slot]) hs]
  obtain ⟨r,h1,n,rfl⟩:=key
  refine ⟨n,by simp [e],callT_ev (fn:=fn118) rfl rfl ⟨_,h1,rfl⟩⟩
theorem run40 (es : List Evt) (hl : es.length < 1000000) : KR 40 [.dat (.sl (es.map ED))] [] = some (.dat (.bool (okEvs es)),[]):=by
 obtain ⟨n,h1,h2⟩:=run118 es hl
 have h70 : KR 70 [.dat (.sl (es.map ED)),.fn 71 []] [] = some (.dat (.bool (decide (0 ≤ n))),[]):=by
  refine callT_ev (fn:=fn70) rfl rfl ?_
  simp [runFun_eq,h2]
 refine callT_ev (fn:=fn40) rfl rfl ?_
 unfold okEvs
 by_cases h : (es.length : Int) ≤ 512
 ·have h' : es.length ≤ 512:=by omega
  by_cases e : es.all vld = true
  ·have h3 : ¬ 0 ≤ n:=by have:=h1.2 e; omega
   simp [runFun_eq,h,h',h70,e,h3]
  ·have h3 : 0 ≤ n:=by
    have : ¬ n < 0:=fun hn => e (h1.1 hn)
    omega
   simp [runFun_eq,h,h',h70,e,h3]
 ·have h' : ¬ es.length ≤ 512:=by omega
  simp [runFun_eq,h,h']
end Go.Am.W

set_option maxRecDepth 10000
set_option maxHeartbeats 4000000
namespace Go.Am.W
open Go.Proofs Go.Rc
def TD (p : Int × Int) : Dat:=.agg [Nn p.1,Nn p.2]
theorem TD_mk (a n : Int) : TD (a,n) = .agg [Nn a,Nn n]:=rfl
abbrev CD (c : Clk) : Dat:=.sl (c.map TD)
def okB : Option Int → Clk → Bool
 | _,[] => true
 | lo,(a,n) :: r => (match lo with | none => true | some b => decide (b < a)) && decide (1 ≤ n) && decide (n ≤ 2147483647) && okB (some a) r
theorem okB_iff : ∀ (c : Clk) (lo : Option Int),okB lo c = true ↔ ok 2147483647 lo c
 | [],lo => by simp [okB,ok]
 | (a,n) :: r,lo => by
  simp only [okB,ok,Bool.and_eq_true,decide_eq_true_eq,okB_iff r]
  cases lo with
  | none => simp [and_assoc]
  | some b => simp [and_assoc]
theorem drop_get {α : Type} {l : List α} {i : Nat} {x : α} (h : l[i]? = some x) : l.drop i = x :: l.drop (i + 1):=by
 obtain ⟨hi,e⟩:=List.getElem?_eq_some_iff.1 h
 rw [List.drop_eq_getElem_cons hi,e]
def LoOK (L : Clk) (i : Nat) (lo : Option Int) : Prop:=(i = 0 → lo = none) ∧ ∀ j,i = j + 1 → ∃ b d,L[j]? = some (b,d) ∧ lo = some b
theorem LoOK.next {L : Clk} {i : Nat} {a n : Int} (h : L[i]? = some (a,n)) : LoOK L (i + 1) (some a) :=
 ⟨fun e => by omega,fun j e => by
  have : j = i:=by omega
  subst this
  exact ⟨a,n,h,rfl⟩⟩
theorem valid_loop82 (L : Clk) (hl : L.length < 1000000000) : ∀ (m i : Nat) (lo : Option Int) (s : St),i + m = L.length → LoOK L i lo →
  hd [0,3] [] s = some ⟨[(0,.dat (CD L)),(3,.dat (.int .i64 i))],[]⟩ →
  Ev (loopLim (exec KR l82_0) s) fun p => if okB lo (L.drop i) = true then p.1 = .exit 0 ∧ hd [] [] p.2 = some ⟨[],[]⟩ else p.1 = .ret ∧ hd [2] [] p.2 = some ⟨[(2,.dat (.bool false))],[]⟩
 | 0,i,lo,s,hi,hlo,hs => by
  have e : i = L.length:=by omega
  subst e
  apply ev_loop
  simp [hs,okB]
 | m + 1,i,lo,s,hi,hlo,hs => by
  obtain ⟨⟨a,n⟩,hx⟩ : ∃ x,L[i]? = some x:=⟨_,List.getElem?_eq_getElem (by omega)⟩
  have h1 : (i : Int) < L.length:=by omega
  have hd':=drop_get hx
  have ih:=fun s => valid_loop82 L hl m (i + 1) (some a) s (by omega) (LoOK.next hx)
  rw [hd']
  cases i with
  | zero =>
   have e:=hlo.1 rfl
   subst e
   by_cases c1 : 1 ≤ n
   ·by_cases c2 : n ≤ 2147483647
    ·simp only [okB,c1,c2,decide_true,Bool.true_and] at ih ⊢
     generalize (fun p : AEx × St => if okB (some a) (L.drop (0 + 1)) = true then p.1 = .exit 0 ∧ hd [] [] p.2 = some ⟨[],[]⟩ else p.1 = .ret ∧ hd [2] [] p.2 = some ⟨[(2,.dat (.bool false))],[]⟩) = Q at ih ⊢
     have c1' : ¬ n < 1:=by omega
     have c2' : ¬ 2147483647 < n:=by omega
     apply ev_loop
     simp at hx h1
     obtain ⟨hlt,hx2⟩:=List.getElem?_eq_some_iff.1 hx
     simp [hs,hx,hx2,TD_mk,h1,c1',c2']
     exact ih _ (by simp [hs,hx,hx2,TD_mk,h1,c1',c2'])
    ·have c1' : ¬ n < 1:=by omega
     have c2' : 2147483647 < n:=by omega
     apply ev_loop
     simp at hx h1
     obtain ⟨hlt,hx2⟩:=List.getElem?_eq_some_iff.1 hx
     simp [hs,hx,hx2,TD_mk,h1,c1',c2',okB,c1,c2]
   ·have c1' : n < 1:=by omega
    apply ev_loop
    simp at hx h1
    obtain ⟨hlt,hx2⟩:=List.getElem?_eq_some_iff.1 hx
    simp [hs,hx,hx2,TD_mk,h1,c1',okB,c1]
  | succ j =>
   obtain ⟨b,d,hp,e⟩:=hlo.2 j rfl
   subst e
   have hw : IntKind.wrap .i64 (j : Int) = j:=wrap_i64 (by omega) (by omega)
   have hw2 : IntKind.wrap .i64 ((j : Int) + 1 + 1) = j + 1 + 1:=wrap_i64 (by omega) (by omega)
   have h2 : (0 : Int) < (j : Int) + 1:=by omega
   by_cases c1 : 1 ≤ n
   ·by_cases c2 : n ≤ 2147483647
    ·have c1' : ¬ n < 1:=by omega
     have c2' : ¬ 2147483647 < n:=by omega
     by_cases c3 : b < a
     ·simp only [okB,c1,c2,c3,decide_true,Bool.true_and] at ih ⊢
      generalize (fun p : AEx × St => if okB (some a) (L.drop (j + 1 + 1)) = true then p.1 = .exit 0 ∧ hd [] [] p.2 = some ⟨[],[]⟩ else p.1 = .ret ∧ hd [2] [] p.2 = some ⟨[(2,.dat (.bool false))],[]⟩) = Q at ih ⊢
      have c3' : ¬ a ≤ b:=by omega
      apply ev_loop
      simp at h1
      simp [hs,hx,hp,TD_mk,h1,h2,c1',c2',c3',hw,hw2]
      exact ih _ (by simp [hs,hx,hp,TD_mk,h1,h2,c1',c2',c3',hw,hw2])
     ·have c3' : a ≤ b:=by omega
      apply ev_loop
      simp at h1
      simp [hs,hx,hp,TD_mk,h1,h2,c1',c2',c3',hw,okB,c3]
    ·have c1' : ¬ n < 1:=by omega
     have c2' : 2147483647 < n:=by omega
     apply ev_loop
     simp at h1
     simp [hs,hx,hp,TD_mk,h1,c1',c2',okB,c1,c2]
   ·have c1' : n < 1:=by omega
    apply ev_loop
    simp at h1
    simp [hs,hx,hp,TD_mk,h1,c1',okB,c1]
theorem run82 (L : Clk) (hl : L.length < 1000000000) : KR 82 [.dat (CD L)] [] = some (.dat (.bool (okB none L)),[]):=by
 refine callT_ev (fn:=fn82) rfl rfl ?_
 simp [runFun_eq]
 simp only [ev_bnd_iff]
 refine (valid_loop82 L hl L.length 0 none _ (by omega) ⟨fun _ => rfl,fun j e => by omega⟩ (by simp)).mono ?_
 rintro ⟨x,s⟩ hq
 simp only [List.drop_zero] at hq
 by_cases e : okB none L = true
 ·rw [if_pos e] at hq
  obtain ⟨rfl,hs⟩:=hq
  simp [hs,e]
 ·rw [if_neg e] at hq
  obtain ⟨rfl,hs⟩:=hq
  simp [endK_hd (res:=[.t 2]) (live:=[2]) (by simp [AR.slot]) hs,e]
end Go.Am.W

set_option maxRecDepth 10000
set_option maxHeartbeats 4000000
namespace Go.Am.W
open Go.Proofs Go.Rc
def has (x : Int) : Clk → Bool
 | [] => false
 | (a,_) :: r => decide (a = x) || has x r
theorem cnt_no {x : Int} : ∀ {c : Clk},has x c = false → cnt c x = 0
 | [],_ => rfl
 | (a,n) :: r,h => by
  simp only [has,Bool.or_eq_false_iff,decide_eq_false_iff_not] at h
  simp [cnt,h.1,cnt_no h.2]
def CQ (slot : Nat) (b : Bool) (v : Int) (p : AEx × St) : Prop :=
 if b = true then p.1 = .ret ∧ ∃ os,hd [slot] [] p.2 = some ⟨[(slot,.dat (.int .i64 v))],os⟩ else p.1 = .exit 0 ∧ ∃ os,hd [] [] p.2 = some ⟨[],os⟩
theorem count_loop83 (L : Clk) (x : Int) (hl : L.length < 1000000000) : ∀ (m i : Nat) (s : St),i + m = L.length →
  hd [0,1,5] [] s = some ⟨[(0,.dat (CD L)),(1,.dat (.int .i64 x)),(5,.dat (.int .i64 i))],[]⟩ →
  Ev (loopLim (exec KR l83_0) s) (CQ 4 (has x (L.drop i)) (cnt (L.drop i) x))
 | 0,i,s,hi,hs => by
  have e : i = L.length:=by omega
  subst e
  apply ev_loop
  simp [hs,has,CQ]
 | m + 1,i,s,hi,hs => by
  obtain ⟨⟨a,n⟩,hx⟩ : ∃ y,L[i]? = some y:=⟨_,List.getElem?_eq_getElem (by omega)⟩
  have h1 : (i : Int) < L.length:=by omega
  have ix : Ix i:=by unfold Ix; omega
  have ih:=fun s => count_loop83 L x hl m (i + 1) s (by omega)
  have hd':=drop_get hx
  rw [hd']
  by_cases h2 : a = x
  ·subst h2
   apply ev_loop
   simp [hs,hx,TD_mk,h1,has,cnt,CQ]
  ·simp only [has,cnt,h2,decide_false,Bool.false_or,if_false]
   generalize CQ 4 (has x (L.drop (i + 1))) (cnt (L.drop (i + 1)) x) = Q at ih ⊢
   apply ev_loop
   simp [hs,hx,TD_mk,h1,h2,ix]
   exact ih _ (by simp [hs,hx,TD_mk,h1,h2,ix])
theorem run83 (L : Clk) (x : Int) (hl : L.length < 1000000000) : KR 83 [.dat (CD L),.dat (.int .i64 x)] [] = some (.dat (.int .i64 (cnt L x)),[]):=by
 refine callT_ev (fn:=fn83) rfl rfl ?_
 simp [runFun_eq]
 simp only [ev_bnd_iff]
 refine (count_loop83 L x hl L.length 0 _ (by omega) (by simp)).mono ?_
 rintro ⟨y,s⟩ hq
 simp only [List.drop_zero,CQ] at hq
 by_cases e : has x L = true
 ·rw [if_pos e] at hq
  obtain ⟨rfl,os,hs⟩:=hq
  simp [endK_hd (res:=[.t 4]) (live:=[4]) (by simp [AR.slot]) hs]
 ·rw [if_neg e] at hq
  obtain ⟨rfl,os,hs⟩:=hq
  simp [hs,cnt_no (by simpa using e)]
theorem count_loop130 (L : Clk) (x : Int) (hl : L.length < 1000000000) : ∀ (m i : Nat) (s : St),i + m = L.length →
  hd [1,7,8,9] [7] s = some ⟨[(1,.dat (.int .i64 x)),(7,.dat (CD L)),(8,.dat (.int .i64 L.length)),(9,.dat (.int .i64 i))],[]⟩ →
  Ev (loopLim (exec KR l130_0) s) (CQ 4 (has x (L.drop i)) (cnt (L.drop i) x))
 | 0,i,s,hi,hs => by
  have e : i = L.length:=by omega
  subst e
  apply ev_loop
  simp [hs,has,CQ]
 | m + 1,i,s,hi,hs => by
  obtain ⟨⟨a,n⟩,hx⟩ : ∃ y,L[i]? = some y:=⟨_,List.getElem?_eq_getElem (by omega)⟩
  have h1 : (i : Int) < L.length:=by omega
  have ix : Ix i:=by unfold Ix; omega
  have ih:=fun s => count_loop130 L x hl m (i + 1) s (by omega)
  have hd':=drop_get hx
  rw [hd']
  by_cases h2 : a = x
  ·subst h2
   apply ev_loop
   simp [hs,hx,TD_mk,h1,has,cnt,CQ]
  ·simp only [has,cnt,h2,decide_false,Bool.false_or,if_false]
   generalize CQ 4 (has x (L.drop (i + 1))) (cnt (L.drop (i + 1)) x) = Q at ih ⊢
   apply ev_loop
   simp [hs,hx,TD_mk,h1,h2,ix]
   exact ih _ (by simp [hs,hx,TD_mk,h1,h2,ix])
theorem run130 (L : Clk) (x : Int) (hl : L.length < 1000000000) : KR 130 [.dat (CD L),.dat (.int .i64 x)] [] = some (.dat (.int .i64 (cnt L x)),[]):=by
 refine callT_ev (fn:=fn130) rfl rfl ?_
 simp [runFun_eq]
 simp only [ev_bnd_iff]
 refine (count_loop130 L x hl L.length 0 _ (by omega) (by simp)).mono ?_
 rintro ⟨y,s⟩ hq
 simp only [List.drop_zero,CQ] at hq
 by_cases e : has x L = true
 ·rw [if_pos e] at hq
  obtain ⟨rfl,os,hs⟩:=hq
  simp [endK_hd (res:=[.t 4]) (live:=[4]) (by simp [AR.slot]) hs]
 ·rw [if_neg e] at hq
  obtain ⟨rfl,os,hs⟩:=hq
  simp [hs,cnt_no (by simpa using e)]
def leB (a b : Clk) : Bool:=a.all fun p => decide (p.2 ≤ cnt b p.1)
theorem leq_loop44 (L M : Clk) (hl : L.length < 1000000000) (hm : M.length < 1000000000) : ∀ (m i : Nat) (s : St),i + m = L.length →
  hd [0,1,5] [] s = some ⟨[(0,.dat (CD L)),(1,.dat (CD M)),(5,.dat (.int .i64 i))],[]⟩ →
  Ev (loopLim (exec KR l44_0) s) fun p => if leB (L.drop i) M = true then p.1 = .exit 0 ∧ hd [] [] p.2 = some ⟨[],[]⟩ else p.1 = .ret ∧ hd [4] [] p.2 = some ⟨[(4,.dat (.bool false))],[]⟩
 | 0,i,s,hi,hs => by
  have e : i = L.length:=by omega
  subst e
  apply ev_loop
  simp [hs,leB]
 | m + 1,i,s,hi,hs => by
  obtain ⟨⟨a,n⟩,hx⟩ : ∃ y,L[i]? = some y:=⟨_,List.getElem?_eq_getElem (by omega)⟩
  have h1 : (i : Int) < L.length:=by omega
  have ix : Ix i:=by unfold Ix; omega
  have ih:=fun s => leq_loop44 L M hl hm m (i + 1) s (by omega)
  have hd':=drop_get hx
  rw [hd']
  have hc:=run83 M a hm
  by_cases h2 : n ≤ cnt M a
  ·have h2' : ¬ cnt M a < n:=by omega
   have he : leB ((a,n) :: L.drop (i + 1)) M = leB (L.drop (i + 1)) M:=by simp [leB,h2]
   rw [he]
   generalize (fun p : AEx × St => if leB (L.drop (i + 1)) M = true then p.1 = .exit 0 ∧ hd [] [] p.2 = some ⟨[],[]⟩ else p.1 = .ret ∧ hd [4] [] p.2 = some ⟨[(4,.dat (.bool false))],[]⟩) = Q at ih ⊢
   apply ev_loop
   simp [hs,hx,TD_mk,h1,h2',ix,hc]
   exact ih _ (by simp [hs,hx,TD_mk,h1,h2',ix,hc])
  ·have h2' : cnt M a < n:=by omega
   have he : leB ((a,n) :: L.drop (i + 1)) M = false:=by simp [leB,h2]
   rw [he]
   apply ev_loop
   simp [hs,hx,TD_mk,h1,h2',ix,hc]
theorem run44 (L M : Clk) (hl : L.length < 1000000000) (hm : M.length < 1000000000) : KR 44 [.dat (CD L),.dat (CD M)] [] = some (.dat (.bool (okB none L && okB none M && leB L M)),[]):=by
 refine callT_ev (fn:=fn44) rfl rfl ?_
 have h1:=run82 L hl
 have h2:=run82 M hm
 cases e1 : okB none L
 ·simp [runFun_eq,h1,e1]
 ·cases e2 : okB none M
  ·simp [runFun_eq,h1,h2,e1,e2]
  ·simp [runFun_eq,h1,h2,e1,e2]
   simp only [ev_bnd_iff]
   refine (leq_loop44 L M hl hm L.length 0 _ (by omega) (by simp [h1,h2,e1,e2])).mono ?_
   rintro ⟨y,s⟩ hq
   simp only [List.drop_zero] at hq
   by_cases e : leB L M = true
   ·rw [if_pos e] at hq
    obtain ⟨rfl,hs⟩:=hq
    simp [hs,e]
   ·rw [if_neg e] at hq
    obtain ⟨rfl,hs⟩:=hq
    simp [endK_hd (res:=[.t 4]) (live:=[4]) (by simp [AR.slot]) hs,e]
end Go.Am.W

set_option maxRecDepth 10000
set_option maxHeartbeats 4000000
namespace Go.Am.W
open Go.Proofs Go.Rc
theorem valid_loop99 (L : Clk) (hl : L.length < 1000000000) : ∀ (m i : Nat) (lo : Option Int) (s : St),i + m = L.length → LoOK L i lo →
  hd [0,5,6,7] [0,5] s = some ⟨[(0,.dat (CD L)),(5,.dat (CD L)),(6,.dat (.int .i64 L.length)),(7,.dat (.int .i64 i))],[]⟩ →
  Ev (loopLim (exec KR l99_0) s) fun p => if okB lo (L.drop i) = true then p.1 = .exit 0 ∧ ∃ os,hd [] [] p.2 = some ⟨[],os⟩ else p.1 = .ret ∧ ∃ os,hd [2] [] p.2 = some ⟨[(2,.dat (.bool false))],os⟩
 | 0,i,lo,s,hi,hlo,hs => by
  have e : i = L.length:=by omega
  subst e
  apply ev_loop
  simp [hs,okB]
 | m + 1,i,lo,s,hi,hlo,hs => by
  obtain ⟨⟨a,n⟩,hx⟩ : ∃ x,L[i]? = some x:=⟨_,List.getElem?_eq_getElem (by omega)⟩
  have h1 : (i : Int) < L.length:=by omega
  have hd':=drop_get hx
  have ih:=fun s => valid_loop99 L hl m (i + 1) (some a) s (by omega) (LoOK.next hx)
  rw [hd']
  cases i with
  | zero =>
   have e:=hlo.1 rfl
   subst e
   by_cases c1 : 1 ≤ n
   ·by_cases c2 : n ≤ 2147483647
    ·simp only [okB,c1,c2,decide_true,Bool.true_and] at ih ⊢
     generalize (fun p : AEx × St => if okB (some a) (L.drop (0 + 1)) = true then p.1 = .exit 0 ∧ ∃ os,hd [] [] p.2 = some ⟨[],os⟩ else p.1 = .ret ∧ ∃ os,hd [2] [] p.2 = some ⟨[(2,.dat (.bool false))],os⟩) = Q at ih ⊢
     have c1' : ¬ n < 1:=by omega
     have c2' : ¬ 2147483647 < n:=by omega
     apply ev_loop
     simp at hx h1
     obtain ⟨hlt,hx2⟩:=List.getElem?_eq_some_iff.1 hx
     simp [hs,hx,hx2,TD_mk,h1,c1',c2']
     exact ih _ (by simp [hs,hx,hx2,TD_mk,h1,c1',c2'])
    ·have c1' : ¬ n < 1:=by omega
     have c2' : 2147483647 < n:=by omega
     apply ev_loop
     simp at hx h1
     obtain ⟨hlt,hx2⟩:=List.getElem?_eq_some_iff.1 hx
     simp [hs,hx,hx2,TD_mk,h1,c1',c2',okB,c1,c2]
   ·have c1' : n < 1:=by omega
    apply ev_loop
    simp at hx h1
    obtain ⟨hlt,hx2⟩:=List.getElem?_eq_some_iff.1 hx
    simp [hs,hx,hx2,TD_mk,h1,c1',okB,c1]
  | succ j =>
   obtain ⟨b,d,hp,e⟩:=hlo.2 j rfl
   subst e
   have hw : IntKind.wrap .i64 (j : Int) = j:=wrap_i64 (by omega) (by omega)
   have hw2 : IntKind.wrap .i64 ((j : Int) + 1 + 1) = j + 1 + 1:=wrap_i64 (by omega) (by omega)
   have h2 : (0 : Int) < (j : Int) + 1:=by omega
   by_cases c1 : 1 ≤ n
   ·by_cases c2 : n ≤ 2147483647
    ·have c1' : ¬ n < 1:=by omega
     have c2' : ¬ 2147483647 < n:=by omega
     by_cases c3 : b < a
     ·simp only [okB,c1,c2,c3,decide_true,Bool.true_and] at ih ⊢
      generalize (fun p : AEx × St => if okB (some a) (L.drop (j + 1 + 1)) = true then p.1 = .exit 0 ∧ ∃ os,hd [] [] p.2 = some ⟨[],os⟩ else p.1 = .ret ∧ ∃ os,hd [2] [] p.2 = some ⟨[(2,.dat (.bool false))],os⟩) = Q at ih ⊢
      have c3' : ¬ a ≤ b:=by omega
      apply ev_loop
      simp at h1
      simp [hs,hx,hp,TD_mk,h1,h2,c1',c2',c3',hw,hw2]
      exact ih _ (by simp [hs,hx,hp,TD_mk,h1,h2,c1',c2',c3',hw,hw2])
     ·have c3' : a ≤ b:=by omega
      apply ev_loop
      simp at h1
      simp [hs,hx,hp,TD_mk,h1,h2,c1',c2',c3',hw,okB,c3]
    ·have c1' : ¬ n < 1:=by omega
     have c2' : 2147483647 < n:=by omega
     apply ev_loop
     simp at h1
     simp [hs,hx,hp,TD_mk,h1,c1',c2',okB,c1,c2]
   ·have c1' : n < 1:=by omega
    apply ev_loop
    simp at h1
    simp [hs,hx,hp,TD_mk,h1,c1',okB,c1]
theorem run99 (L : Clk) (hl : L.length < 1000000000) : KR 99 [.dat (CD L)] [] = some (.dat (.bool (okB none L)),[]):=by
 refine callT_ev (fn:=fn99) rfl rfl ?_
 simp [runFun_eq]
 simp only [ev_bnd_iff]
 refine (valid_loop99 L hl L.length 0 none _ (by omega) ⟨fun _ => rfl,fun j e => by omega⟩ (by simp)).mono ?_
 rintro ⟨x,s⟩ hq
 simp only [List.drop_zero] at hq
 by_cases e : okB none L = true
 ·rw [if_pos e] at hq
  obtain ⟨rfl,os,hs⟩:=hq
  simp [hs,e]
 ·rw [if_neg e] at hq
  obtain ⟨rfl,os,hs⟩:=hq
  simp [endK_hd (res:=[.t 2]) (live:=[2]) (by simp [AR.slot]) hs,e]
def same2 (A B : List Clk) : Bool:=match A,B with
 | [],_ => true
 | a :: r,b :: s => (decide (a.length = b.length) && ((okB none a && okB none b && leB a b) && (okB none b && okB none a && leB b a))) && same2 r s
 | _ :: _,[] => true
def CL (A : List Clk) : Dat:=.sl (A.map CD)
theorem same_loop22 (A B : List Clk) (hl : A.length < 1000000000) (he : A.length = B.length) (hA : ∀ c ∈ A,c.length < 1000000000) (hB : ∀ c ∈ B,c.length < 1000000000) : ∀ (m i : Nat) (s : St),i + m = A.length →
  hd [0,1,5] [] s = some ⟨[(0,.dat (.sl (A.map CD))),(1,.dat (.sl (B.map CD))),(5,.dat (.int .i64 i))],[]⟩ →
  Ev (loopLim (exec KR l22_0) s) fun p => if same2 (A.drop i) (B.drop i) = true then p.1 = .exit 0 ∧ hd [] [] p.2 = some ⟨[],[]⟩ else p.1 = .ret ∧ hd [4] [] p.2 = some ⟨[(4,.dat (.bool false))],[]⟩
 | 0,i,s,hi,hs => by
  have e : i = A.length:=by omega
  subst e
  apply ev_loop
  simp [hs,same2]
 | m + 1,i,s,hi,hs => by
  obtain ⟨a,hx⟩ : ∃ y,A[i]? = some y:=⟨_,List.getElem?_eq_getElem (by omega)⟩
  obtain ⟨b,hy⟩ : ∃ y,B[i]? = some y:=⟨_,List.getElem?_eq_getElem (by omega)⟩
  have h1 : (i : Int) < A.length:=by omega
  have ix : Ix i:=by unfold Ix; omega
  have ih:=fun s => same_loop22 A B hl he hA hB m (i + 1) s (by omega)
  rw [drop_get hx,drop_get hy]
  have ha:=hA a (List.mem_of_getElem? hx)
  have hb:=hB b (List.mem_of_getElem? hy)
  have r1:=run44 a b ha hb
  have r2:=run44 b a hb ha
  by_cases c1 : a.length = b.length
  ·have c1' : (a.length : Int) = b.length:=by omega
   cases c2 : (okB none a && okB none b && leB a b)
   ·apply ev_loop
    simp only [c2] at r1
    simp [hs,hx,hy,h1,c1',r1,same2,c1,c2]
   ·cases c3 : (okB none b && okB none a && leB b a)
    ·apply ev_loop
     simp only [c2] at r1
     simp only [c3] at r2
     simp [hs,hx,hy,h1,c1',r1,r2,same2,c1,c2,c3]
    ·simp only [same2,c1,c2,c3,decide_true,Bool.true_and,Bool.and_true]
     simp only [c2] at r1
     simp only [c3] at r2
     generalize (fun p : AEx × St => if same2 (A.drop (i + 1)) (B.drop (i + 1)) = true then p.1 = .exit 0 ∧ hd [] [] p.2 = some ⟨[],[]⟩ else p.1 = .ret ∧ hd [4] [] p.2 = some ⟨[(4,.dat (.bool false))],[]⟩) = Q at ih ⊢
     apply ev_loop
     simp [hs,hx,hy,h1,c1',r1,r2,ix]
     exact ih _ (by simp [hs,hx,hy,h1,c1',r1,r2,ix])
  ·have c1' : ¬ (a.length : Int) = b.length:=by omega
   apply ev_loop
   simp [hs,hx,hy,h1,c1',same2,c1]
theorem run22 (A B : List Clk) (hl : A.length < 1000000000) (hA : ∀ c ∈ A,c.length < 1000000000) (hB : ∀ c ∈ B,c.length < 1000000000) (he : A.length = B.length) (hs2 : same2 A B = true) :
  KR 22 [.dat (.sl (A.map CD)),.dat (.sl (B.map CD))] [] = some (.dat (.bool true),[]):=by
 refine callT_ev (fn:=fn22) rfl rfl ?_
 have he' : (A.length : Int) = B.length:=by omega
 simp [runFun_eq,he']
 simp only [ev_bnd_iff]
 refine (same_loop22 A B hl he hA hB A.length 0 _ (by omega) (by simp [he'])).mono ?_
 rintro ⟨y,s⟩ hq
 simp only [List.drop_zero] at hq
 rw [if_pos hs2] at hq
 obtain ⟨rfl,hs⟩:=hq
 simp [hs]
theorem ints_loop19 (L : List Int) (hl : L.length < 1000000000) : ∀ (m i : Nat) (s : St),i + m = L.length →
  hd [0,1,5] [] s = some ⟨[(0,.dat (.sl (L.map Nn))),(1,.dat (.sl (L.map Nn))),(5,.dat (.int .i64 i))],[]⟩ →
  Ev (loopLim (exec KR l19_0) s) fun p => p.1 = .exit 0 ∧ hd [] [] p.2 = some ⟨[],[]⟩
 | 0,i,s,hi,hs => by
  have e : i = L.length:=by omega
  subst e
  apply ev_loop
  simp [hs]
 | m + 1,i,s,hi,hs => by
  obtain ⟨a,hx⟩ : ∃ y,L[i]? = some y:=⟨_,List.getElem?_eq_getElem (by omega)⟩
  have h1 : (i : Int) < L.length:=by omega
  have ix : Ix i:=by unfold Ix; omega
  have ih:=fun s => ints_loop19 L hl m (i + 1) s (by omega)
  generalize (fun p : AEx × St => p.1 = .exit 0 ∧ hd [] [] p.2 = some ⟨[],[]⟩) = Q at ih ⊢
  apply ev_loop
  simp [hs,hx,h1,ix]
  exact ih _ (by simp [hs,hx,h1,ix])
theorem run19 (L : List Int) (hl : L.length < 1000000000) : KR 19 [.dat (.sl (L.map Nn)),.dat (.sl (L.map Nn))] [] = some (.dat (.bool true),[]):=by
 refine callT_ev (fn:=fn19) rfl rfl ?_
 simp [runFun_eq]
 simp only [ev_bnd_iff]
 refine (ints_loop19 L hl L.length 0 _ (by omega) (by simp)).mono ?_
 rintro ⟨y,s⟩ ⟨rfl,hs⟩
 simp [hs]
end Go.Am.W

set_option maxRecDepth 10000
set_option maxHeartbeats 4000000
namespace Go.Am.W
open Go.Proofs Go.Rc
def JQ (want : Clk) (A B : Clk) (p : AEx × St) : Prop :=
 p.1 = .exit 0 ∧ ∃ (i j : Nat) (acc : Clk),i ≤ A.length ∧ j ≤ B.length ∧ (i = A.length ∨ j = B.length) ∧ acc.length ≤ A.length + B.length ∧ acc ++ (A.drop i ++ B.drop j) = want ∧
  hd [0,1,5,6,7] [] p.2 = some ⟨[(0,.dat (CD A)),(1,.dat (CD B)),(5,.rsl ((6,0),0,0) acc.length 2 0 acc.length),(6,.dat (.int .i64 i)),(7,.dat (.int .i64 j))],[((6,0),.plain (.arr 2 acc.length false (acc.map TD)))]⟩
theorem join_loop (A B : Clk) (ha : A.length < 1000000000) (hb : B.length < 1000000000) : ∀ (m i j : Nat) (acc : Clk) (s : St),i ≤ A.length → j ≤ B.length → (A.length - i) + (B.length - j) ≤ m → acc.length ≤ i + j →
  hd [0,1,5,6,7] [0,1,5] s = some ⟨[(0,.dat (CD A)),(1,.dat (CD B)),(5,.rsl ((6,0),0,0) acc.length 2 0 acc.length),(6,.dat (.int .i64 i)),(7,.dat (.int .i64 j))],[((6,0),.plain (.arr 2 acc.length false (acc.map TD)))]⟩ →
  Ev (loopLim (exec KR l129_0) s) (JQ (acc ++ join (A.drop i) (B.drop j)) A B)
 | m,i,j,acc,s,hi,hj,hm,hac,hs => by
  by_cases ei : i = A.length
  ·have h1 : ¬ (i : Int) < A.length:=by omega
   subst ei
   apply ev_loop
   simp [hs,join]
   exact ⟨rfl,A.length,j,acc,by omega,hj,.inl rfl,by omega,by simp,by simp⟩
  ·have h1 : (i : Int) < A.length:=by omega
   by_cases ej : j = B.length
   ·have h2 : ¬ (j : Int) < B.length:=by omega
    have hj0 : join (A.drop i) [] = A.drop i:=by
     cases A.drop i with
     | nil => rw [join]
     | cons p r => obtain ⟨a,n⟩:=p; rw [join]
    subst ej
    apply ev_loop
    simp [hs,h1,hj0]
    exact ⟨rfl,i,B.length,acc,hi,by omega,.inr rfl,by omega,by simp,by simp⟩
   ·have h2 : (j : Int) < B.length:=by omega
    obtain ⟨⟨a,n⟩,hx⟩ : ∃ y,A[i]? = some y:=⟨_,List.getElem?_eq_getElem (by omega)⟩
    obtain ⟨⟨b,k⟩,hy⟩ : ∃ y,B[j]? = some y:=⟨_,List.getElem?_eq_getElem (by omega)⟩
    have ixi : Ix i:=by unfold Ix; omega
    have ixj : Ix j:=by unfold Ix; omega
    have hr : (acc.length + 1) * 17 ≤ 1099511627776:=by omega
    obtain ⟨m,rfl⟩ : ∃ m',m = m' + 1:=⟨m - 1,by omega⟩
    rw [drop_get hx,drop_get hy,join]
    by_cases c1 : a = b
    ·subst c1
     rw [if_pos rfl]
     have ih:=fun s => join_loop A B ha hb m (i + 1) (j + 1) (acc ++ [(a,max n k)]) s (by omega) (by omega) (by omega) (by simp; omega)
     have e : acc ++ [(a,max n k)] ++ join (A.drop (i + 1)) (B.drop (j + 1)) = acc ++ (a,max n k) :: join (A.drop (i + 1)) (B.drop (j + 1)):=by simp
     rw [e] at ih
     generalize JQ (acc ++ (a,max n k) :: join (A.drop (i + 1)) (B.drop (j + 1))) A B = Q at ih ⊢
     by_cases c2 : n = k
     ·subst c2
      apply ev_loop
      simp [hs,hx,hy,TD_mk,h1,h2,ixi,ixj,hr]
      exact ih _ (by simp [hs,hx,hy,TD_mk,h1,h2,ixi,ixj,hr])
     ·by_cases c3 : n < k
      ·have c4 : max n k = k:=by omega
       rw [c4] at ih
       have c5 : ¬ k < n:=by omega
       apply ev_loop
       simp [hs,hx,hy,TD_mk,h1,h2,ixi,ixj,hr,c2,c3,c5]
       exact ih _ (by simp [hs,hx,hy,TD_mk,h1,h2,ixi,ixj,hr,c2,c3,c5])
      ·have c4 : max n k = n:=by omega
       rw [c4] at ih
       have c5 : k < n:=by omega
       apply ev_loop
       simp [hs,hx,hy,TD_mk,h1,h2,ixi,ixj,hr,c2,c3,c5]
       exact ih _ (by simp [hs,hx,hy,TD_mk,h1,h2,ixi,ixj,hr,c2,c3,c5])
    ·rw [if_neg c1]
     by_cases c2 : a < b
     ·rw [if_pos c2,← drop_get hy]
      have ih:=fun s => join_loop A B ha hb m (i + 1) j (acc ++ [(a,n)]) s (by omega) (by omega) (by omega) (by simp; omega)
      have e : acc ++ [(a,n)] ++ join (A.drop (i + 1)) (B.drop j) = acc ++ (a,n) :: join (A.drop (i + 1)) (B.drop j):=by simp
      rw [e] at ih
      generalize JQ (acc ++ (a,n) :: join (A.drop (i + 1)) (B.drop j)) A B = Q at ih ⊢
      apply ev_loop
      simp [hs,hx,hy,TD_mk,h1,h2,ixi,ixj,hr,c1,c2]
      exact ih _ (by simp [hs,hx,hy,TD_mk,h1,h2,ixi,ixj,hr,c1,c2])
     ·have c3 : b < a:=by omega
      rw [if_neg c2,← drop_get hx]
      have ih:=fun s => join_loop A B ha hb m i (j + 1) (acc ++ [(b,k)]) s (by omega) (by omega) (by omega) (by simp; omega)
      have e : acc ++ [(b,k)] ++ join (A.drop i) (B.drop (j + 1)) = acc ++ (b,k) :: join (A.drop i) (B.drop (j + 1)):=by simp
      rw [e] at ih
      generalize JQ (acc ++ (b,k) :: join (A.drop i) (B.drop (j + 1))) A B = Q at ih ⊢
      apply ev_loop
      simp [hs,hx,hy,TD_mk,h1,h2,ixi,ixj,hr,c1,c2,c3]
      exact ih _ (by simp [hs,hx,hy,TD_mk,h1,h2,ixi,ixj,hr,c1,c2,c3])
end Go.Am.W

set_option maxRecDepth 10000
set_option maxHeartbeats 4000000
namespace Go.Am.W
open Go.Proofs Go.Rc
theorem run129 (A B : Clk) (ha : A.length < 1000000000) (hb : B.length < 1000000000) : KR 129 [.dat (CD A),.dat (CD B)] [] = some (.dat (CD (join A B)),[]):=by
 refine callT_ev (fn:=fn129) rfl rfl ?_
 simp [runFun_eq]
 simp only [ev_bnd_iff]
 refine (join_loop A B ha hb (A.length + B.length) 0 0 [] _ (by omega) (by omega) (by omega) (by simp) (by simp)).mono ?_
 rintro ⟨y,s⟩ ⟨rfl,i,j,acc,hi,hj,hij,hac,he,hs⟩
 simp at he
 have h1 : (i : Int) ≤ A.length:=by omega
 have h2 : (j : Int) ≤ B.length:=by omega
 have hr : (acc.length + (A.length - i)) * 17 ≤ 1099511627776:=by omega
 have hr2 : (acc.length + (A.length - i) + (B.length - j)) * 17 ≤ 1099511627776:=by omega
 have c1 : ((A.map TD).all fun d => d.cells.length == 2) = true:=by
  rw [List.all_map]; exact List.all_eq_true.2 fun _ _ => rfl
 have c2 : ((B.map TD).all fun d => d.cells.length == 2) = true:=by
  rw [List.all_map]; exact List.all_eq_true.2 fun _ _ => rfl
 simp only [CD] at hs
 generalize hLA : A.map TD = LA at hs c1
 generalize hLB : B.map TD = LB at hs c2
 have l1 : LA.length = A.length:=by rw [← hLA]; simp
 have l2 : LB.length = B.length:=by rw [← hLB]; simp
 have c3 : (∀ x ∈ LA.drop i,x.cells.length = 2) ↔ True:=iff_true_intro fun x hx => by simpa using List.all_eq_true.1 c1 x (List.mem_of_mem_drop hx)
 have c4 : (∀ x ∈ LB.drop j,x.cells.length = 2) ↔ True:=iff_true_intro fun x hx => by simpa using List.all_eq_true.1 c2 x (List.mem_of_mem_drop hx)
 have e1 : LA.drop i = (A.drop i).map TD:=by rw [← hLA,List.map_drop]
 have e2 : LB.drop j = (B.drop j).map TD:=by rw [← hLB,List.map_drop]
 by_cases g1 : i = A.length
 ·have n1 : LA.drop i = []:=List.drop_eq_nil_of_le (by omega)
  have n1' : A.drop i = []:=List.drop_eq_nil_of_le (by omega)
  have hr3 : acc.length * 17 ≤ 1099511627776:=by omega
  by_cases g2 : j = B.length
  ·have n2 : LB.drop j = []:=List.drop_eq_nil_of_le (by omega)
   have n2' : B.drop j = []:=List.drop_eq_nil_of_le (by omega)
   simp [n1',n2'] at he
   rw [← he]
   simp [hs,h1,h2,hr3,n1,n2,l1,l2,c1,c2]
  ·have n2 : ¬ LB.drop j = []:=by intro h; have:=congrArg List.length h; simp at this; omega
   have n3 : ¬ B.length ≤ j:=by omega
   have n4 : ¬ B.length - j = 0:=by omega
   have hr4 : (acc.length + (B.length - j)) * 17 ≤ 1099511627776:=by omega
   simp [n1'] at he
   simp [hs,h1,h2,hr3,hr4,n1,n3,n4,l1,l2,c4,c1,c2]
   simp [e2,← he]
 ·have g2 : j = B.length:=by omega
  have n2 : LB.drop j = []:=List.drop_eq_nil_of_le (by omega)
  have n2' : B.drop j = []:=List.drop_eq_nil_of_le (by omega)
  have n3 : ¬ A.length ≤ i:=by omega
  have n4 : ¬ A.length - i = 0:=by omega
  simp [n2'] at he
  simp [hs,h1,h2,hr,n2,n3,n4,l1,l2,c3,c1,c2]
  simp [e1,← he]
end Go.Am.W
