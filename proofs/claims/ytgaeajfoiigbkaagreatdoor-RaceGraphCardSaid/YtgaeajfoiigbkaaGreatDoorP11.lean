/- Parts of the proofs of the statement, joined and made short: WC_1. -/
import Derived.Test.YtgaeajfoiigbkaaGreatDoorP9
set_option linter.unusedVariables false
set_option linter.unusedSimpArgs false
set_option linter.unusedSectionVars false
set_option maxRecDepth 100000
set_option maxHeartbeats 2000000
namespace Go.Am.E
open Go.Proofs Go.Rc
attribute [local simp] zja7 Evt.cells run120 run121' run122' run123' run124 run125 run126 run127 objOk resOk entOk zif7 ordered wroteK isVal
theorem v77_5 (ag idx obj mux ent ord rd wr : Int) : K 77 [.dat (Evt.dat ⟨ag,idx,5,obj,mux,ent,ord,rd,wr⟩)] [] = some (.dat (.bool (vld ⟨ag,idx,5,obj,mux,ent,ord,rd,wr⟩)),[]):=by
 refine zha7 (fn:=fn77) rfl rfl ?_
 by_cases h1 : ag < 0
 ·rw [vf (by intro hv; simp [VP] at hv <;> omega)]; simp [h1]
 by_cases h2 : idx < 0
 ·rw [vf (by intro hv; simp [VP] at hv <;> omega)]; simp [h1,h2]
 by_cases h3 : 0 ≤ obj
 rotate_left
 ·rw [vf (by intro hv; simp [VP] at hv <;> omega)]; simp [h1,h2,h3]
 by_cases h4 : obj < 8
 rotate_left
 ·rw [vf (by intro hv; simp [VP] at hv <;> omega)]; simp [h1,h2,h3,h4]
 by_cases h5 : -2147483648 ≤ rd
 rotate_left
 ·rw [vf (by intro hv; simp [VP] at hv <;> omega)]; simp [h1,h2,h3,h4,h5]
 by_cases h6 : rd ≤ 2147483647
 rotate_left
 ·rw [vf (by intro hv; simp [VP] at hv <;> omega)]; simp [h1,h2,h3,h4,h5,h6]
 by_cases h7 : ent = -1
 rotate_left
 ·rw [vf (by intro hv; simp [VP] at hv <;> omega)]; simp [h1,h2,h3,h4,h5,h6,h7]
 subst h7
 by_cases h8 : ord < 0
 ·rw [vf (by intro hv; simp [VP] at hv <;> omega)]; simp [h1,h2,h3,h4,h5,h6,h8]
 by_cases h9 : 2 < ord
 ·rw [vf (by intro hv; simp [VP] at hv <;> omega)]; simp [h1,h2,h3,h4,h5,h6,h8,h9]
 by_cases h10 : -2147483648 ≤ wr
 rotate_left
 ·rw [vf (by intro hv; simp [VP] at hv <;> omega)]; simp [h1,h2,h3,h4,h5,h6,h8,h9,h10]
 by_cases h11 : wr ≤ 2147483647
 rotate_left
 ·rw [vf (by intro hv; simp [VP] at hv <;> omega)]; simp [h1,h2,h3,h4,h5,h6,h8,h9,h10,h11]
 by_cases h12 : mux = -1
 ·subst h12; rw [vt (by simp [VP] <;> omega)]; simp [h1,h2,h3,h4,h5,h6,h8,h9,h10,h11]
 ·rw [vf (by intro hv; simp [VP] at hv <;> omega)]; simp [h1,h2,h3,h4,h5,h6,h8,h9,h10,h11,h12]
theorem v77_6 (ag idx obj mux ent ord rd wr : Int) : K 77 [.dat (Evt.dat ⟨ag,idx,6,obj,mux,ent,ord,rd,wr⟩)] [] = some (.dat (.bool (vld ⟨ag,idx,6,obj,mux,ent,ord,rd,wr⟩)),[]):=by
 refine zha7 (fn:=fn77) rfl rfl ?_
 by_cases h1 : ag < 0
 ·rw [vf (by intro hv; simp [VP] at hv <;> omega)]; simp [h1]
 by_cases h2 : idx < 0
 ·rw [vf (by intro hv; simp [VP] at hv <;> omega)]; simp [h1,h2]
 by_cases h3 : 0 ≤ obj
 rotate_left
 ·rw [vf (by intro hv; simp [VP] at hv <;> omega)]; simp [h1,h2,h3]
 by_cases h4 : obj < 8
 rotate_left
 ·rw [vf (by intro hv; simp [VP] at hv <;> omega)]; simp [h1,h2,h3,h4]
 by_cases h5 : -2147483648 ≤ rd
 rotate_left
 ·rw [vf (by intro hv; simp [VP] at hv <;> omega)]; simp [h1,h2,h3,h4,h5]
 by_cases h6 : rd ≤ 2147483647
 rotate_left
 ·rw [vf (by intro hv; simp [VP] at hv <;> omega)]; simp [h1,h2,h3,h4,h5,h6]
 by_cases h7 : ent = -1
 rotate_left
 ·rw [vf (by intro hv; simp [VP] at hv <;> omega)]; simp [h1,h2,h3,h4,h5,h6,h7]
 subst h7
 by_cases h8 : ord < 0
 ·rw [vf (by intro hv; simp [VP] at hv <;> omega)]; simp [h1,h2,h3,h4,h5,h6,h8]
 by_cases h9 : 2 < ord
 ·rw [vf (by intro hv; simp [VP] at hv <;> omega)]; simp [h1,h2,h3,h4,h5,h6,h8,h9]
 by_cases h10 : -2147483648 ≤ wr
 rotate_left
 ·rw [vf (by intro hv; simp [VP] at hv <;> omega)]; simp [h1,h2,h3,h4,h5,h6,h8,h9,h10]
 by_cases h11 : wr ≤ 2147483647
 rotate_left
 ·rw [vf (by intro hv; simp [VP] at hv <;> omega)]; simp [h1,h2,h3,h4,h5,h6,h8,h9,h10,h11]
 by_cases h12 : wr = 0
 rotate_left
 ·rw [vf (by intro hv; simp [VP] at hv <;> omega)]; simp [h1,h2,h3,h4,h5,h6,h8,h9,h10,h11,h12]
 subst h12
 by_cases h13 : mux = -1
 ·subst h13; rw [vt (by simp [VP] <;> omega)]; simp [h1,h2,h3,h4,h5,h6,h8,h9,h10,h11]
 ·rw [vf (by intro hv; simp [VP] at hv <;> omega)]; simp [h1,h2,h3,h4,h5,h6,h8,h9,h10,h11,h13]
theorem v77_7 (ag idx obj mux ent ord rd wr : Int) : K 77 [.dat (Evt.dat ⟨ag,idx,7,obj,mux,ent,ord,rd,wr⟩)] [] = some (.dat (.bool (vld ⟨ag,idx,7,obj,mux,ent,ord,rd,wr⟩)),[]):=by
 refine zha7 (fn:=fn77) rfl rfl ?_
 by_cases h1 : ag < 0
 ·rw [vf (by intro hv; simp [VP] at hv <;> omega)]; simp [h1]
 by_cases h2 : idx < 0
 ·rw [vf (by intro hv; simp [VP] at hv <;> omega)]; simp [h1,h2]
 by_cases h3 : obj = 0
 rotate_left
 ·rw [vf (by intro hv; simp [VP] at hv <;> omega)]; simp [h1,h2,h3]
 subst h3
 by_cases h4 : rd = 0
 rotate_left
 ·rw [vf (by intro hv; simp [VP] at hv <;> omega)]; simp [h1,h2,h4]
 subst h4
 by_cases h5 : ent = -1
 rotate_left
 ·rw [vf (by intro hv; simp [VP] at hv <;> omega)]; simp [h1,h2,h5]
 subst h5
 by_cases h6 : ord < 0
 ·rw [vf (by intro hv; simp [VP] at hv <;> omega)]; simp [h1,h2,h6]
 by_cases h7 : 2 < ord
 ·rw [vf (by intro hv; simp [VP] at hv <;> omega)]; simp [h1,h2,h6,h7]
 by_cases h8 : ord = 0
 rotate_left
 ·rw [vf (by intro hv; simp [VP] at hv <;> omega)]; simp [h1,h2,h6,h7,h8]
 subst h8
 by_cases h9 : -2147483648 ≤ wr
 rotate_left
 ·rw [vf (by intro hv; simp [VP] at hv <;> omega)]; simp [h1,h2,h6,h7,h9]
 by_cases h10 : wr ≤ 2147483647
 rotate_left
 ·rw [vf (by intro hv; simp [VP] at hv <;> omega)]; simp [h1,h2,h6,h7,h9,h10]
 by_cases h11 : wr = 0
 rotate_left
 ·rw [vf (by intro hv; simp [VP] at hv <;> omega)]; simp [h1,h2,h6,h7,h9,h10,h11]
 subst h11
 by_cases h12 : mux = -1
 ·subst h12; rw [vt (by simp [VP] <;> omega)]; simp [h1,h2,h6,h7,h9,h10]
 ·rw [vf (by intro hv; simp [VP] at hv <;> omega)]; simp [h1,h2,h6,h7,h9,h10,h12]
theorem v77_8 (ag idx obj mux ent ord rd wr : Int) : K 77 [.dat (Evt.dat ⟨ag,idx,8,obj,mux,ent,ord,rd,wr⟩)] [] = some (.dat (.bool (vld ⟨ag,idx,8,obj,mux,ent,ord,rd,wr⟩)),[]):=by
 refine zha7 (fn:=fn77) rfl rfl ?_
 by_cases h1 : ag < 0
 ·rw [vf (by intro hv; simp [VP] at hv <;> omega)]; simp [h1]
 by_cases h2 : idx < 0
 ·rw [vf (by intro hv; simp [VP] at hv <;> omega)]; simp [h1,h2]
 by_cases h3 : 0 ≤ obj
 rotate_left
 ·rw [vf (by intro hv; simp [VP] at hv <;> omega)]; simp [h1,h2,h3]
 by_cases h4 : obj < 8
 rotate_left
 ·rw [vf (by intro hv; simp [VP] at hv <;> omega)]; simp [h1,h2,h3,h4]
 by_cases h5 : -2147483648 ≤ rd
 rotate_left
 ·rw [vf (by intro hv; simp [VP] at hv <;> omega)]; simp [h1,h2,h3,h4,h5]
 by_cases h6 : rd ≤ 2147483647
 rotate_left
 ·rw [vf (by intro hv; simp [VP] at hv <;> omega)]; simp [h1,h2,h3,h4,h5,h6]
 by_cases h7 : -1 ≤ ent
 rotate_left
 ·rw [vf (by intro hv; simp [VP] at hv <;> omega)]; simp [h1,h2,h3,h4,h5,h6,h7]
 by_cases h8 : ord < 0
 ·rw [vf (by intro hv; simp [VP] at hv <;> omega)]; simp [h1,h2,h3,h4,h5,h6,h7,h8]
 by_cases h9 : 2 < ord
 ·rw [vf (by intro hv; simp [VP] at hv <;> omega)]; simp [h1,h2,h3,h4,h5,h6,h7,h8,h9]
 by_cases h10 : -2147483648 ≤ wr
 rotate_left
 ·rw [vf (by intro hv; simp [VP] at hv <;> omega)]; simp [h1,h2,h3,h4,h5,h6,h7,h8,h9,h10]
 by_cases h11 : wr ≤ 2147483647
 rotate_left
 ·rw [vf (by intro hv; simp [VP] at hv <;> omega)]; simp [h1,h2,h3,h4,h5,h6,h7,h8,h9,h10,h11]
 by_cases h12 : wr = 0
 rotate_left
 ·rw [vf (by intro hv; simp [VP] at hv <;> omega)]; simp [h1,h2,h3,h4,h5,h6,h7,h8,h9,h10,h11,h12]
 subst h12
 by_cases h13 : mux = -1
 ·subst h13; rw [vt (by simp [VP] <;> omega)]; simp [h1,h2,h3,h4,h5,h6,h7,h8,h9,h10,h11]
 ·rw [vf (by intro hv; simp [VP] at hv <;> omega)]; simp [h1,h2,h3,h4,h5,h6,h7,h8,h9,h10,h11,h13]
end Go.Am.E
