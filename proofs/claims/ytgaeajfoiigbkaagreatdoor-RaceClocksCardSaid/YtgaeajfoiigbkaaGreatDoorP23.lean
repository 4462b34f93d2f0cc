/- Parts of the proofs of the statement, joined and made short: WL. -/
import Derived.Test.YtgaeajfoiigbkaaGreatDoorP22
set_option linter.unusedVariables false
set_option linter.unusedSimpArgs false
set_option linter.unusedSectionVars false
set_option maxRecDepth 10000
set_option maxHeartbeats 4000000
namespace Go.Am.W
open Go.Proofs Go.Rc
def Fit (L : Clk) : Prop:=∀ p ∈ L,0 ≤ p.2 ∧ p.2 ≤ 2147483647
theorem ok_fit {lim : Int} : ∀ {c : Clk} {lo : Option Int},ok lim lo c → ∀ p ∈ c,0 ≤ p.2 ∧ p.2 ≤ lim
 | [],_,_,p,hp => by cases hp
 | (a,n) :: r,lo,h,p,hp => by
  rcases List.mem_cons.1 hp with rfl | hp
  ·exact ⟨by have:=h.2.1; simp only; omega,h.2.2.1⟩
  ·exact ok_fit h.2.2.2 p hp
def AQ (x : Int) (want : Clk) (p : AEx × St) : Prop :=
 p.1 = .exit 0 ∧ ∃ (dn : Bool) (acc : Clk),acc ++ (if dn = true then [] else [(x,1)]) = want ∧
  hd [1,5,6] [] p.2 = some ⟨[(1,.dat (.int .i64 x)),(5,.rsl ((6,0),0,0) acc.length 2 0 acc.length),(6,.dat (.bool dn))],[((6,0),.plain (.arr 2 acc.length false (acc.map TD)))]⟩
theorem adv_loop131 (L : Clk) (x : Int) (hl : L.length < 1000000000) (hN : Fit L) : ∀ (m i : Nat) (dn : Bool) (acc : Clk) (s : St),i + m = L.length → acc.length ≤ 2 * i →
  hd [1,5,6,13,14,15] [5,13] s = some ⟨[(1,.dat (.int .i64 x)),(5,.rsl ((6,0),0,0) acc.length 2 0 acc.length),(6,.dat (.bool dn)),(13,.dat (CD L)),(14,.dat (.int .i64 L.length)),(15,.dat (.int .i64 i))],[((6,0),.plain (.arr 2 acc.length false (acc.map TD)))]⟩ →
  Ev (loopLim (exec KR l131_0) s) (AQ x (acc ++ if dn = true then L.drop i else adv (L.drop i) x))
 | 0,i,dn,acc,s,hi,ha,hs => by
  have e : i = L.length:=by omega
  subst e
  apply ev_loop
  cases dn
  ·simp [hs,AQ,adv]
  ·simp [hs,AQ]
 | m + 1,i,dn,acc,s,hi,ha,hs => by
  obtain ⟨⟨a,n⟩,hx⟩ : ∃ y,L[i]? = some y:=⟨_,List.getElem?_eq_getElem (by omega)⟩
  have h1 : (i : Int) < L.length:=by omega
  have ix : Ix i:=by unfold Ix; omega
  have hn:=hN _ (List.mem_of_getElem? hx)
  simp only at hn
  have hw : IntKind.wrap .i64 (n + 1) = n + 1:=wrap_i64 (by omega) (by omega)
  have hr : (acc.length + 1) * 17 ≤ 1099511627776:=by omega
  have hr2 : (acc.length + 1 + 1) * 17 ≤ 1099511627776:=by omega
  have ih:=fun dn acc s h => adv_loop131 L x hl hN m (i + 1) dn acc s (by omega) h
  rw [drop_get hx]
  cases dn with
  | true =>
   have hg:=ih true (acc ++ [(a,n)])
   simp only [if_true] at hg ⊢
   have e : acc ++ [(a,n)] ++ L.drop (i + 1) = acc ++ (a,n) :: L.drop (i + 1):=by simp
   rw [e] at hg
   generalize AQ x (acc ++ (a,n) :: L.drop (i + 1)) = Q at hg ⊢
   apply ev_loop
   simp [hs,hx,TD_mk,h1,ix,hr]
   exact hg _ (by simp; omega) (by simp [hs,hx,TD_mk,h1,ix,hr])
  | false =>
   simp only [Bool.false_eq_true,if_false,adv] at ih ⊢
   by_cases c1 : a = x
   ·subst c1
    have hg:=ih true (acc ++ [(a,n + 1)])
    simp only [if_true] at hg ⊢
    have e : acc ++ [(a,n + 1)] ++ L.drop (i + 1) = acc ++ (a,n + 1) :: L.drop (i + 1):=by simp
    rw [e] at hg
    generalize AQ a (acc ++ (a,n + 1) :: L.drop (i + 1)) = Q at hg ⊢
    apply ev_loop
    simp [hs,hx,TD_mk,h1,ix,hr,hw]
    exact hg _ (by simp; omega) (by simp [hs,hx,TD_mk,h1,ix,hr,hw])
   ·by_cases c2 : x < a
    ·have c3 : x ≤ a:=by omega
     have hg:=ih true (acc ++ [(x,1),(a,n)])
     simp only [c1,c2,if_true,if_false] at hg ⊢
     have e : acc ++ [(x,1),(a,n)] ++ L.drop (i + 1) = acc ++ (x,1) :: (a,n) :: L.drop (i + 1):=by simp
     rw [e] at hg
     generalize AQ x (acc ++ (x,1) :: (a,n) :: L.drop (i + 1)) = Q at hg ⊢
     apply ev_loop
     simp [hs,hx,TD_mk,h1,ix,hr,hr2,c1,c3]
     exact hg _ (by simp; omega) (by simp [hs,hx,TD_mk,h1,ix,hr,hr2,c1,c3])
    ·have c3 : ¬ x ≤ a:=by omega
     have hg:=ih false (acc ++ [(a,n)])
     simp only [c1,c2,if_false,Bool.false_eq_true] at hg ⊢
     have e : acc ++ [(a,n)] ++ adv (L.drop (i + 1)) x = acc ++ (a,n) :: adv (L.drop (i + 1)) x:=by simp
     rw [e] at hg
     generalize AQ x (acc ++ (a,n) :: adv (L.drop (i + 1)) x) = Q at hg ⊢
     apply ev_loop
     simp [hs,hx,TD_mk,h1,ix,hr,c1,c3]
     exact hg _ (by simp; omega) (by simp [hs,hx,TD_mk,h1,ix,hr,c1,c3])
end Go.Am.W
