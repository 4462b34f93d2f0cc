/- Parts of the proofs of the statement, joined and made short: WC WD. -/
import Derived.Test.YtgaeajfoiigbkaaGreatDoorP16
import Derived.Test.YtgaeajfoiigbkaaGreatDoorP17
import Derived.Test.YtgaeajfoiigbkaaGreatDoorP18
import Derived.Test.YtgaeajfoiigbkaaGreatDoorP19
import Derived.Test.YtgaeajfoiigbkaaGreatDoorP15
set_option linter.unusedVariables false
set_option linter.unusedSimpArgs false
set_option linter.unusedSectionVars false
set_option maxRecDepth 10000
set_option maxHeartbeats 2000000
namespace Go.Am.W
open Go.Proofs Go.Rc
theorem run77 (e : Evt) : KR 77 [.dat e.dat] [] = some (.dat (.bool (vld e)),[]):=by
 obtain ⟨ag,idx,kind,obj,mux,ent,ord,rd,wr⟩:=e
 by_cases h : 1 ≤ kind ∧ kind ≤ 17
 ·have : kind = 1 ∨ kind = 2 ∨ kind = 3 ∨ kind = 4 ∨ kind = 5 ∨ kind = 6 ∨ kind = 7 ∨ kind = 8 ∨ kind = 9 ∨ kind = 10 ∨ kind = 11 ∨ kind = 12 ∨ kind = 13 ∨ kind = 14 ∨ kind = 15 ∨ kind = 16 ∨ kind = 17:=by omega
  rcases this with rfl | rfl | rfl | rfl | rfl | rfl | rfl | rfl | rfl | rfl | rfl | rfl | rfl | rfl | rfl | rfl | rfl
  ·exact v77_1 ..
  ·exact v77_2 ..
  ·exact v77_3 ..
  ·exact v77_4 ..
  ·exact v77_5 ..
  ·exact v77_6 ..
  ·exact v77_7 ..
  ·exact v77_8 ..
  ·exact v77_9 ..
  ·exact v77_10 ..
  ·exact v77_11 ..
  ·exact v77_12 ..
  ·exact v77_13 ..
  ·exact v77_14 ..
  ·exact v77_15 ..
  ·exact v77_16 ..
  ·exact v77_17 ..
 ·rw [vf (by unfold VP; simp only; omega)]
  refine callT_ev (fn:=fn77) rfl rfl ?_
  by_cases h1 : kind < 1
  ·simp [runFun_eq,Evt.cells,h1]
  ·have h2 : 17 < kind:=by omega
   simp [runFun_eq,Evt.cells,h1,h2]
end Go.Am.W

set_option maxRecDepth 10000
set_option maxHeartbeats 2000000
namespace Go.Am.W
open Go.Proofs Go.Rc
section
variable (ag idx kind obj mux ent ord rd wr : Int)
theorem run72' : KR 72 [.dat (.agg [Nn ag,Nn idx,Nn kind,Nn obj,Nn mux,Nn ent,Nn ord,Nn rd,Nn wr])] [] = some (.dat (.bool (vld ⟨ag,idx,kind,obj,mux,ent,ord,rd,wr⟩)),[]):=run72 ⟨ag,idx,kind,obj,mux,ent,ord,rd,wr⟩
theorem run77' : KR 77 [.dat (.agg [Nn ag,Nn idx,Nn kind,Nn obj,Nn mux,Nn ent,Nn ord,Nn rd,Nn wr])] [] = some (.dat (.bool (vld ⟨ag,idx,kind,obj,mux,ent,ord,rd,wr⟩)),[]):=run77 ⟨ag,idx,kind,obj,mux,ent,ord,rd,wr⟩
theorem run73' : KR 73 [.dat (.agg [Nn ag,Nn idx,Nn kind,Nn obj,Nn mux,Nn ent,Nn ord,Nn rd,Nn wr])] [] = some (.dat (.bool (vld ⟨ag,idx,kind,obj,mux,ent,ord,rd,wr⟩ && readsK kind)),[]):=by
 refine callT_ev (fn:=fn73) rfl rfl ?_
 cases hv : vld ⟨ag,idx,kind,obj,mux,ent,ord,rd,wr⟩
 ·simp [runFun_eq,run72',hv]
 by_cases h1 : kind = 1
 ·subst h1; simp [runFun_eq,run72',hv,readsK]
 by_cases h2 : kind = 8
 ·subst h2; simp [runFun_eq,run72',hv,readsK]
 by_cases h3 : kind = 5
 ·subst h3; simp [runFun_eq,run72',hv,readsK]
 by_cases h4 : kind = 6
 ·subst h4; simp [runFun_eq,run72',hv,readsK]
 simp [runFun_eq,run72',hv,readsK,h1,h2,h3,h4]
theorem run75' : KR 75 [.dat (.agg [Nn ag,Nn idx,Nn kind,Nn obj,Nn mux,Nn ent,Nn ord,Nn rd,Nn wr])] [] = some (.dat (.bool (vld ⟨ag,idx,kind,obj,mux,ent,ord,rd,wr⟩ && decide (kind = 2 ∨ kind = 5 ∨ kind = 4))),[]):=by
 refine callT_ev (fn:=fn75) rfl rfl ?_
 cases hv : vld ⟨ag,idx,kind,obj,mux,ent,ord,rd,wr⟩
 ·simp [runFun_eq,run72',hv]
 by_cases h1 : kind = 2
 ·subst h1; simp [runFun_eq,run72',hv]
 by_cases h2 : kind = 5
 ·subst h2; simp [runFun_eq,run72',hv]
 by_cases h3 : kind = 4
 ·subst h3; simp [runFun_eq,run72',hv]
 simp [runFun_eq,run72',hv,h1,h2,h3]
theorem run78' : KR 78 [.dat (.agg [Nn ag,Nn idx,Nn kind,Nn obj,Nn mux,Nn ent,Nn ord,Nn rd,Nn wr])] [] = some (.dat (.bool (vld ⟨ag,idx,kind,obj,mux,ent,ord,rd,wr⟩ && readsK kind)),[]):=by
 refine callT_ev (fn:=fn78) rfl rfl ?_
 cases hv : vld ⟨ag,idx,kind,obj,mux,ent,ord,rd,wr⟩ <;> simp [runFun_eq,run77',run128,hv]
theorem run80' : KR 80 [.dat (.agg [Nn ag,Nn idx,Nn kind,Nn obj,Nn mux,Nn ent,Nn ord,Nn rd,Nn wr])] [] = some (.dat (.bool (vld ⟨ag,idx,kind,obj,mux,ent,ord,rd,wr⟩ && decide (kind = 2 ∨ kind = 5 ∨ kind = 4))),[]):=by
 refine callT_ev (fn:=fn80) rfl rfl ?_
 cases hv : vld ⟨ag,idx,kind,obj,mux,ent,ord,rd,wr⟩
 ·simp [runFun_eq,run77',hv]
 by_cases h1 : kind = 2
 ·subst h1; simp [runFun_eq,run77',hv]
 by_cases h2 : kind = 5
 ·subst h2; simp [runFun_eq,run77',hv]
 simp [runFun_eq,run77',hv,h1,h2]
theorem run62' : KR 62 [.dat (.agg [Nn ag,Nn idx,Nn kind,Nn obj,Nn mux,Nn ent,Nn ord,Nn rd,Nn wr])] [] = some (.dat (.bool (decide (kind = 2 ∨ kind = 3 ∨ kind = 5))),[]):=by
 refine callT_ev (fn:=fn62) rfl rfl ?_
 by_cases h1 : kind = 2
 ·subst h1; simp [runFun_eq]
 by_cases h2 : kind = 3
 ·subst h2; simp [runFun_eq]
 simp [runFun_eq,h1,h2]
theorem run68' : KR 68 [.dat (.agg [Nn ag,Nn idx,Nn kind,Nn obj,Nn mux,Nn ent,Nn ord,Nn rd,Nn wr])] [] = some (.dat (.bool (decide (kind = 2 ∨ kind = 3 ∨ kind = 5))),[]):=by
 refine callT_ev (fn:=fn68) rfl rfl ?_
 by_cases h1 : kind = 2
 ·subst h1; simp [runFun_eq]
 by_cases h2 : kind = 3
 ·subst h2; simp [runFun_eq]
 simp [runFun_eq,h1,h2]
theorem run71' : KR 71 [.dat (.agg [Nn ag,Nn idx,Nn kind,Nn obj,Nn mux,Nn ent,Nn ord,Nn rd,Nn wr])] [] = some (.dat (.bool (!vld ⟨ag,idx,kind,obj,mux,ent,ord,rd,wr⟩)),[]):=by
 refine callT_ev (fn:=fn71) rfl rfl ?_
 simp [runFun_eq,run72']
end
theorem run76 (a : Int) (h : -9223372036854775808 ≤ a) : KR 76 [.dat (Nn a)] [] = some (.dat (.int .i64 (thr a)),[]):=by
 refine callT_ev (fn:=fn76) rfl rfl ?_
 unfold thr
 by_cases h1 : a < 0
 ·have w1 : IntKind.wrap .i64 (a + 1) = a + 1:=wrap_i64_all (by omega) (by omega)
  have w2 : IntKind.wrap .i64 (-(a + 1)) = -(a + 1):=wrap_i64_all (by omega) (by omega)
  have w3 : IntKind.wrap .i64 (0 - (a + 1)) = -(a + 1):=by rw [Int.zero_sub]; exact w2
  simp [runFun_eq,h1,w1,w2]
 ·simp [runFun_eq,h1]
theorem run81 (a : Int) (h : -9223372036854775808 ≤ a) : KR 81 [.dat (Nn a)] [] = some (.dat (.int .i64 (thr a)),[]):=by
 refine callT_ev (fn:=fn81) rfl rfl ?_
 unfold thr
 by_cases h1 : a < 0
 ·have w1 : IntKind.wrap .i64 (a + 1) = a + 1:=wrap_i64_all (by omega) (by omega)
  have w2 : IntKind.wrap .i64 (-(a + 1)) = -(a + 1):=wrap_i64_all (by omega) (by omega)
  have w3 : IntKind.wrap .i64 (0 - (a + 1)) = -(a + 1):=by rw [Int.zero_sub]; exact w2
  have h2 : ¬ 0 ≤ a:=by omega
  simp [runFun_eq,h2,h1,w1,w2]
 ·have h2 : 0 ≤ a:=by omega
  simp [runFun_eq,h2,h1]
end Go.Am.W
