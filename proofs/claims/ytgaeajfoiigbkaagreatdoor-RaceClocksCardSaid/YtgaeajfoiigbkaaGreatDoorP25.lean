/- Parts of the proofs of the statement, joined and made short: WO. -/
import Derived.Test.YtgaeajfoiigbkaaGreatDoorP22
import Derived.Test.YtgaeajfoiigbkaaGreatDoorP24
set_option linter.unusedVariables false
set_option linter.unusedSimpArgs false
set_option linter.unusedSectionVars false
set_option maxRecDepth 10000
set_option maxHeartbeats 4000000
namespace Go.Am.W
open Go.Proofs Go.Rc
theorem run85 (A B : Clk) (ha : A.length < 1000000000) (hb : B.length < 1000000000) (oa : okB none A = true) (ob : okB none B = true) : KR 85 [.dat (CD A),.dat (CD B)] [] = some (.dat (CD (join A B)),[]):=by
 refine callT_ev (fn:=fn85) rfl rfl ?_
 simp [runFun_eq,run99 A (by omega),run99 B (by omega),oa,ob,run129 A B ha hb]
theorem ok_gt {lim : Int} : ∀ {c : Clk} {a : Int},ok lim (some a) c → ∀ p ∈ c,a < p.1
 | [],_,_,p,hp => by cases hp
 | (b,n) :: r,a,h,p,hp => by
  have h1:=h.1 a rfl
  rcases List.mem_cons.1 hp with rfl | hp
  ·exact h1
  ·have:=ok_gt h.2.2.2 p hp
   omega
theorem adv_loop47 (L : Clk) (x : Int) (hl : L.length < 1000000000) (hN : Fit L) : ∀ (m i : Nat) (dn : Bool) (lo : Option Int) (acc : Clk) (s : St),i + m = L.length → acc.length ≤ 2 * i → ok 2147483647 lo (L.drop i) → (dn = true → ∀ p ∈ L.drop i,x < p.1) →
  hd [0,1,5,6,7] [0,5] s = some ⟨[(0,.dat (CD L)),(1,.dat (.int .i64 x)),(5,.rsl ((6,0),0,0) acc.length 2 0 acc.length),(6,.dat (.bool dn)),(7,.dat (.int .i64 i))],[((6,0),.plain (.arr 2 acc.length false (acc.map TD)))]⟩ →
  Ev (loopLim (exec KR l47_0) s) (AQ x (acc ++ if dn = true then L.drop i else adv (L.drop i) x))
 | 0,i,dn,lo,acc,s,hi,ha,ho,hd,hs => by
  have e : i = L.length:=by omega
  subst e
  apply ev_loop
  cases dn
  ·simp [hs,AQ,adv]
  ·simp [hs,AQ]
 | m + 1,i,dn,lo,acc,s,hi,ha,ho,hd,hs => by
  obtain ⟨⟨a,n⟩,hx⟩ : ∃ y,L[i]? = some y:=⟨_,List.getElem?_eq_getElem (by omega)⟩
  have h1 : (i : Int) < L.length:=by omega
  have ix : Ix i:=by unfold Ix; omega
  have hn:=hN _ (List.mem_of_getElem? hx)
  simp only at hn
  have hw : IntKind.wrap .i64 (n + 1) = n + 1:=wrap_i64 (by omega) (by omega)
  have hr : (acc.length + 1) * 17 ≤ 1099511627776:=by omega
  have hr2 : (acc.length + 1 + 1) * 17 ≤ 1099511627776:=by omega
  rw [drop_get hx] at ho
  have ho':=ho.2.2.2
  have hgt:=ok_gt ho'
  have ih:=fun dn acc s h => adv_loop47 L x hl hN m (i + 1) dn (some a) acc s (by omega) h ho'
  rw [drop_get hx]
  cases dn with
  | true =>
   have hax : x < a:=hd rfl (a,n) (by rw [drop_get hx]; simp)
   have c1 : ¬ a = x:=by omega
   have hg:=ih true (acc ++ [(a,n)])
   simp only [if_true] at hg ⊢
   have e : acc ++ [(a,n)] ++ L.drop (i + 1) = acc ++ (a,n) :: L.drop (i + 1):=by simp
   rw [e] at hg
   generalize AQ x (acc ++ (a,n) :: L.drop (i + 1)) = Q at hg ⊢
   apply ev_loop
   simp [hs,hx,TD_mk,h1,ix,hr,c1,hax]
   exact hg _ (by simp; omega) (fun _ p hp => by have:=hgt p hp; omega) (by simp [hs,hx,TD_mk,h1,ix,hr,c1,hax])
  | false =>
   simp only [Bool.false_eq_true,if_false,adv] at ih ⊢
   by_cases c1 : a = x
   ·subst c1
    have hg:=ih true (acc ++ [(a,n + 1)])
    simp only [if_true] at hg ⊢
    have e : acc ++ [(a,n + 1)] ++ L.drop (i + 1) = acc ++ (a,n + 1) :: L.drop (i + 1):=by simp
    rw [e] at hg
    generalize AQ a (acc ++ (a,n + 1) :: L.drop (i + 1)) = Q at hg ⊢
    apply ev_loop
    simp [hs,hx,TD_mk,h1,ix,hr,hw]
    exact hg _ (by simp; omega) (fun _ p hp => hgt p hp) (by simp [hs,hx,TD_mk,h1,ix,hr,hw])
   ·by_cases c2 : x < a
    ·have c3 : x ≤ a:=by omega
     have hg:=ih true (acc ++ [(x,1),(a,n)])
     simp only [c1,c2,if_true,if_false] at hg ⊢
     have e : acc ++ [(x,1),(a,n)] ++ L.drop (i + 1) = acc ++ (x,1) :: (a,n) :: L.drop (i + 1):=by simp
     rw [e] at hg
     generalize AQ x (acc ++ (x,1) :: (a,n) :: L.drop (i + 1)) = Q at hg ⊢
     apply ev_loop
     simp [hs,hx,TD_mk,h1,ix,hr,hr2,c1,c2,c3]
     exact hg _ (by simp; omega) (fun _ p hp => by have:=hgt p hp; omega) (by simp [hs,hx,TD_mk,h1,ix,hr,hr2,c1,c2,c3])
    ·have c3 : ¬ x ≤ a:=by omega
     have hg:=ih false (acc ++ [(a,n)])
     simp only [c1,c2,if_false,Bool.false_eq_true] at hg ⊢
     have e : acc ++ [(a,n)] ++ adv (L.drop (i + 1)) x = acc ++ (a,n) :: adv (L.drop (i + 1)) x:=by simp
     rw [e] at hg
     generalize AQ x (acc ++ (a,n) :: adv (L.drop (i + 1)) x) = Q at hg ⊢
     apply ev_loop
     simp [hs,hx,TD_mk,h1,ix,hr,c1,c2,c3]
     exact hg _ (by simp; omega) (by simp) (by simp [hs,hx,TD_mk,h1,ix,hr,c1,c2,c3])
theorem adv_len (x : Int) : ∀ L : Clk,(adv L x).length ≤ L.length + 1
 | [] => by simp [adv]
 | (a,n) :: r => by
  have ih:=adv_len x r
  simp only [adv]
  split
  ·simp
  ·split
   ·simp
   ·simp; omega
theorem run47 (L : Clk) (x : Int) (hl : L.length < 1000000000) (ho : ok 2147483647 none L) : KR 47 [.dat (CD L),.dat (.int .i64 x)] [] = some (.dat (CD (adv L x)),[]):=by
 refine callT_ev (fn:=fn47) rfl rfl ?_
 simp [runFun_eq]
 simp only [ev_bnd_iff]
 refine (adv_loop47 L x hl (ok_fit ho) L.length 0 false none [] _ (by omega) (by simp) ho (by simp) (by simp)).mono ?_
 rintro ⟨y,s⟩ ⟨rfl,dn,acc,he,hs⟩
 simp only [List.drop_zero,List.nil_append,Bool.false_eq_true,if_false] at he
 have hal : acc.length ≤ L.length + 1:=by
  have h5:=adv_len x L
  have:=congrArg List.length he
  simp only [List.length_append] at this
  omega
 have hr : (acc.length + 1) * 17 ≤ 1099511627776:=by omega
 cases dn with
 | true =>
  simp at he
  simp [hs,he]
 | false =>
  simp at he
  simp [hs,hr,← he,TD_mk]
end Go.Am.W
