/- Parts of the proofs of the statement, joined and made short: WB WC0. -/
import Derived.Test.YtgaeajfoiigbkaaGreatDoorP11
import Derived.Test.YtgaeajfoiigbkaaGreatDoorP12
import Derived.Test.YtgaeajfoiigbkaaGreatDoorP13
import Derived.Test.YtgaeajfoiigbkaaGreatDoorP14
import Derived.Test.YtgaeajfoiigbkaaGreatDoorP10
set_option linter.unusedVariables false
set_option linter.unusedSimpArgs false
set_option linter.unusedSectionVars false
set_option maxRecDepth 10000
set_option maxHeartbeats 2000000
namespace Go.Am.W
open Go.Proofs Go.Rc
theorem run72 (e : Evt) : KR 72 [.dat e.dat] [] = some (.dat (.bool (vld e)),[]):=by
 obtain ⟨ag,idx,kind,obj,mux,ent,ord,rd,wr⟩:=e
 by_cases h : 1 ≤ kind ∧ kind ≤ 17
 ·have : kind = 1 ∨ kind = 2 ∨ kind = 3 ∨ kind = 4 ∨ kind = 5 ∨ kind = 6 ∨ kind = 7 ∨ kind = 8 ∨ kind = 9 ∨ kind = 10 ∨ kind = 11 ∨ kind = 12 ∨ kind = 13 ∨ kind = 14 ∨ kind = 15 ∨ kind = 16 ∨ kind = 17:=by omega
  rcases this with rfl | rfl | rfl | rfl | rfl | rfl | rfl | rfl | rfl | rfl | rfl | rfl | rfl | rfl | rfl | rfl | rfl
  ·exact v72_1 ..
  ·exact v72_2 ..
  ·exact v72_3 ..
  ·exact v72_4 ..
  ·exact v72_5 ..
  ·exact v72_6 ..
  ·exact v72_7 ..
  ·exact v72_8 ..
  ·exact v72_9 ..
  ·exact v72_10 ..
  ·exact v72_11 ..
  ·exact v72_12 ..
  ·exact v72_13 ..
  ·exact v72_14 ..
  ·exact v72_15 ..
  ·exact v72_16 ..
  ·exact v72_17 ..
 ·rw [vf (by unfold VP; simp only; omega)]
  refine callT_ev (fn:=fn72) rfl rfl ?_
  by_cases h1 : kind < 1
  ·simp [runFun_eq,Evt.cells,h1]
  ·have h2 : 17 < kind:=by omega
   simp [runFun_eq,Evt.cells,h1,h2]
end Go.Am.W

set_option maxRecDepth 10000
namespace Go.Am.W
open Go.Proofs Go.Rc
theorem kinds {k : Int} (h : 1 ≤ k ∧ k ≤ 17) : k = 1 ∨ k = 2 ∨ k = 3 ∨ k = 4 ∨ k = 5 ∨ k = 6 ∨ k = 7 ∨ k = 8 ∨ k = 9 ∨ k = 10 ∨ k = 11 ∨ k = 12 ∨ k = 13 ∨ k = 14 ∨ k = 15 ∨ k = 16 ∨ k = 17:=by omega
theorem run124 (k : Int) : KR 124 [.dat (Nn k)] [] = some (.dat (.bool (ordered k)),[]):=by
 refine callT_ev (fn:=fn124) rfl rfl ?_
 by_cases h1 : k = 1
 ·subst h1; simp [runFun_eq,ordered]
 by_cases h2 : k = 2
 ·subst h2; simp [runFun_eq,ordered]
 by_cases h3 : k = 3
 ·subst h3; simp [runFun_eq,ordered]
 by_cases h5 : k = 5
 ·subst h5; simp [runFun_eq,ordered]
 by_cases h6 : k = 6
 ·subst h6; simp [runFun_eq,ordered]
 simp [runFun_eq,ordered,h1,h2,h3,h5,h6]
theorem run126 (k : Int) : KR 126 [.dat (Nn k)] [] = some (.dat (.bool (wroteK k)),[]):=by
 refine callT_ev (fn:=fn126) rfl rfl ?_
 by_cases h1 : k = 2
 ·subst h1; simp [runFun_eq,wroteK]
 by_cases h2 : k = 3
 ·subst h2; simp [runFun_eq,wroteK]
 by_cases h3 : k = 4
 ·subst h3; simp [runFun_eq,wroteK]
 simp [runFun_eq,wroteK,h1,h2,h3]
theorem run128 (k : Int) : KR 128 [.dat (Nn k)] [] = some (.dat (.bool (readsK k)),[]):=by
 refine callT_ev (fn:=fn128) rfl rfl ?_
 by_cases h1 : k = 1
 ·subst h1; simp [runFun_eq,readsK]
 by_cases h2 : k = 8
 ·subst h2; simp [runFun_eq,readsK]
 by_cases h3 : k = 5
 ·subst h3; simp [runFun_eq,readsK]
 simp [runFun_eq,readsK,h1,h2,h3]
theorem run121 (e : Evt) (hk : 1 ≤ e.kind ∧ e.kind ≤ 17) : KR 121 [.dat e.dat] [] = some (.dat (.bool (objOk e)),[]):=by
 obtain ⟨ag,idx,kind,obj,mux,ent,ord,rd,wr⟩:=e
 refine callT_ev (fn:=fn121) rfl rfl ?_
 rcases kinds hk with rfl | rfl | rfl | rfl | rfl | rfl | rfl | rfl | rfl | rfl | rfl | rfl | rfl | rfl | rfl | rfl | rfl <;>
 simp [runFun_eq,Evt.cells,objOk,run127]
theorem run123 (e : Evt) (hk : 1 ≤ e.kind ∧ e.kind ≤ 17) : KR 123 [.dat e.dat] [] = some (.dat (.bool (entOk e)),[]):=by
 obtain ⟨ag,idx,kind,obj,mux,ent,ord,rd,wr⟩:=e
 refine callT_ev (fn:=fn123) rfl rfl ?_
 rcases kinds hk with rfl | rfl | rfl | rfl | rfl | rfl | rfl | rfl | rfl | rfl | rfl | rfl | rfl | rfl | rfl | rfl | rfl <;>
 simp [runFun_eq,Evt.cells,entOk]
theorem run122 (e : Evt) (hk : 1 ≤ e.kind ∧ e.kind ≤ 17) : KR 122 [.dat e.dat] [] = some (.dat (.bool (resOk e)),[]):=by
 obtain ⟨ag,idx,kind,obj,mux,ent,ord,rd,wr⟩:=e
 refine callT_ev (fn:=fn122) rfl rfl ?_
 by_cases hv : isVal rd <;>
 (rcases kinds hk with rfl | rfl | rfl | rfl | rfl | rfl | rfl | rfl | rfl | rfl | rfl | rfl | rfl | rfl | rfl | rfl | rfl <;>
 simp [runFun_eq,Evt.cells,resOk,run127,run125,run128,readsK,hv])
theorem run121' (ag idx kind obj mux ent ord rd wr : Int) (h1 : 1 ≤ kind) (h2 : kind ≤ 17) : KR 121 [.dat (.agg [Nn ag,Nn idx,Nn kind,Nn obj,Nn mux,Nn ent,Nn ord,Nn rd,Nn wr])] [] = some (.dat (.bool (objOk ⟨ag,idx,kind,obj,mux,ent,ord,rd,wr⟩)),[]):=run121 ⟨ag,idx,kind,obj,mux,ent,ord,rd,wr⟩ ⟨h1,h2⟩
theorem run122' (ag idx kind obj mux ent ord rd wr : Int) (h1 : 1 ≤ kind) (h2 : kind ≤ 17) : KR 122 [.dat (.agg [Nn ag,Nn idx,Nn kind,Nn obj,Nn mux,Nn ent,Nn ord,Nn rd,Nn wr])] [] = some (.dat (.bool (resOk ⟨ag,idx,kind,obj,mux,ent,ord,rd,wr⟩)),[]):=run122 ⟨ag,idx,kind,obj,mux,ent,ord,rd,wr⟩ ⟨h1,h2⟩
theorem run123' (ag idx kind obj mux ent ord rd wr : Int) (h1 : 1 ≤ kind) (h2 : kind ≤ 17) : KR 123 [.dat (.agg [Nn ag,Nn idx,Nn kind,Nn obj,Nn mux,Nn ent,Nn ord,Nn rd,Nn wr])] [] = some (.dat (.bool (entOk ⟨ag,idx,kind,obj,mux,ent,ord,rd,wr⟩)),[]):=run123 ⟨ag,idx,kind,obj,mux,ent,ord,rd,wr⟩ ⟨h1,h2⟩
end Go.Am.W
