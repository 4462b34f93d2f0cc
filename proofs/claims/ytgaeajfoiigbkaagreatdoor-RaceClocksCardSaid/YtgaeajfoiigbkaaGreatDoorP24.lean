/- Parts of the proofs of the statement, joined and made short: WM. -/
import Derived.Test.YtgaeajfoiigbkaaGreatDoorP23
set_option linter.unusedVariables false
set_option linter.unusedSimpArgs false
set_option linter.unusedSectionVars false
set_option maxRecDepth 10000
set_option maxHeartbeats 4000000
namespace Go.Am.W
open Go.Proofs Go.Rc
theorem run131 (L : Clk) (x : Int) (hl : L.length < 1000000000) (hN : Fit L) : KR 131 [.dat (CD L),.dat (.int .i64 x)] [] = some (.dat (CD (adv L x)),[]):=by
 refine callT_ev (fn:=fn131) rfl rfl ?_
 obtain ⟨c,hc⟩ : ∃ c : Int,c = L.length + 1:=⟨_,rfl⟩
 have hw : IntKind.wrap .i64 ((L.length : Int) + 1) = c:=by rw [hc]; exact wrap_i64 (by omega) (by omega)
 have h0 : (0 : Int) ≤ c:=by omega
 have h2 : 16 * c ≤ 1099511627776:=by omega
 have h3 : c ≤ 1099511627776:=by omega
 clear hc
 simp [runFun_eq,hw,h0,h2,h3]
 simp only [ev_bnd_iff]
 refine (adv_loop131 L x hl hN L.length 0 false [] _ (by omega) (by simp) (by simp [hw,h0,h2,h3])).mono ?_
 rintro ⟨y,s⟩ ⟨rfl,dn,acc,he,hs⟩
 simp only [List.drop_zero,List.nil_append,Bool.false_eq_true,if_false] at he
 have hal : acc.length ≤ L.length + 1:=by
  have h5 : (adv L x).length ≤ L.length + 1:=by
   clear he hs hw h0 h2 h3 hN hl
   induction L with
   | nil => simp [adv]
   | cons p r ih =>
    obtain ⟨a,n⟩:=p
    simp only [adv]
    split
    ·simp
    ·split
     ·simp
     ·simp; omega
  have:=congrArg List.length he
  simp only [List.length_append] at this
  omega
 have hr : (acc.length + 1) * 17 ≤ 1099511627776:=by omega
 cases dn with
 | true =>
  simp at he
  simp [hs,he]
 | false =>
  simp at he
  simp [hs,hr,← he,TD_mk]
theorem run88 (L : Clk) (x : Int) (hl : L.length < 1000000000) (ho : okB none L = true) (hc : cnt L x ≠ 2147483647) : KR 88 [.dat (CD L),.dat (.int .i64 x)] [] = some (.dat (CD (adv L x)),[]):=by
 refine callT_ev (fn:=fn88) rfl rfl ?_
 simp [runFun_eq,run99 L (by omega),ho,run130 L x (by omega),hc,run131 L x hl (ok_fit ((okB_iff L none).1 ho))]
end Go.Am.W
